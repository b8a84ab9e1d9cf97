/- Package print: looker: text, kids, node: may a node be where it stands, are there at most 2000. Conditions: the tables of unicode/utf8 are as laid; texts of at most 20000 bytes, at most 200 attributes each. -/
import Derived.Test.YtdafdoodegpdhaaDoorPQ
import Derived.Test.YtdafdoodegpdhaaDoorPF
namespace Go.Proofs.YtdafdoodegpdhaaDoor
open Go Go.RowKit Go.BigFrame
set_option linter.unusedVariables false
set_option linter.unusedSimpArgs false

theorem conv_pair (s : ByteArray) (hs : s.size ≤ 100000) (w : World) : ∃ (v : Value) (w' : World), (Go.convert 9 85 (.string s)).run Tryd.prog w = .ok v w' ∧ (Go.convert 85 9 v).run Tryd.prog w' = .ok (.string (anewB s)) w' ∧ Ext w w' := by
  have h1 := run_runes_of_string (P := Tryd.prog) w 9 85 21 s Tryd.underlying9 Tryd.underlying85 Tryd.underlying21 (by have := size_runesFrom s s.size 0 #[]; simp at this; omega)
  have e1 : Conv.runesFrom s s.size 0 #[] = ((runeList s s.size 0).map (Value.int .i32)).toArray := by rw [runesFrom_eq]; simp
  have hz : anewB s = runesBytes (runeList s s.size 0) := rfl
  rw [e1] at h1
  rw [hz]
  clear hz e1 hs
  generalize runeList s s.size 0 = l at *
  generalize hk : grownCap w (List.map (Value.int IntKind.i32) l).toArray.size 0 21 = K at *
  have hge := grownCap_ge w (List.map (Value.int IntKind.i32) l).toArray.size 0 21
  rw [hk] at hge
  clear hk
  generalize hC : (List.map (Value.int IntKind.i32) l).toArray ++ Array.replicate (K - (List.map (Value.int IntKind.i32) l).toArray.size) (Value.int IntKind.i32 0) = C at *
  have h2 := run_convert_runes (P := Tryd.prog) (w.drew.alloc (.cells C 21)) 85 9 21 ⟨w.heap.size, 0, none⟩ l.length K l (Nat.le_refl _) Tryd.underlying85 Tryd.underlying21 Tryd.underlying9
    (by
      intro j hj
      have hb : (w.drew.alloc (.cells C 21)).heap[w.heap.size]? = some (.cells C 21 (0, 0)) := heap_alloc_new w.drew _
      rw [Addr.add_lit, Nat.zero_add]
      refine cellOf hb ?_
      rw [← hC, Array.getElem?_append_left (by simpa using hj)]
      simp [hj])
  rw [List.take_length] at h2
  simp only [List.size_toArray, List.length_map] at h1
  exact ⟨_, _, h1, h2, (Ext.refl w).drew.alloc _⟩
theorem isEmpty_no {α : Type} {l : List α} (h : ¬ l.length = 0) : l.isEmpty = false := by
  cases l with
  | nil => exact absurd rfl h
  | cons a l => rfl
def aroundV (d : Int) (box line li : Bool) : Value := .agg #[.int .i64 d, .bool box, .bool line, .bool li]
set_option maxHeartbeats 1000000 in
set_option maxRecDepth 100000 in
theorem text_any (n : PN) (v : Value) (p : Value) (d : Int) (box line li : Bool) (w : World) (hr : RdN w n v) (hs : n.text.size ≤ 100000) :
    Calls Tryd.prog 69 #[p, v, .agg #[.int .i64 d, .bool box, .bool line, .bool li]] w (RBool (textOk box n) w) := by
  obtain ⟨y1, y2, y3, y4, rfl⟩ := hr.shape
  have x1 := ((Ext.refl w).alloc (.cells #[.int .i64 n.tag, .slice y1 n.attrs.length y2, .string n.text, .slice y3 n.kids.length y4] 25))
  have bb := heap_alloc_new w (.cells #[.int .i64 n.tag, .slice y1 n.attrs.length y2, .string n.text, .slice y3 n.kids.length y4] 25)
  obtain ⟨r, hr9⟩ : ∃ r, textOk box n = r := ⟨_, rfl⟩
  rw [hr9]
  have HR9 := Lib.hid hr9
  have HS := Lib.hid hs
  clear hr hr9 hs
  go_enter Tryd.func69, Tryd.ntmps69
  go_upto_region 1 with fail
  obtain ⟨w1, hw1⟩ : ∃ w1 : World, w1 = w.alloc (.cells #[.int .i64 n.tag, .slice y1 n.attrs.length y2, .string n.text, .slice y3 n.kids.length y4] 25) := ⟨_, rfl⟩
  have hsz : w1.heap.size = w.heap.size + 1 := by rw [hw1]; simp
  rw [← hw1] at x1 bb ⊢
  clear hw1
  have x2 := x1.alloc (.cells #[.int .i64 d, .bool box, .bool line, .bool li] 61)
  have b2 := ((Ext.refl w1).alloc (.cells #[.int .i64 d, .bool box, .bool line, .bool li] 61)).block bb
  have a2 := heap_alloc_new w1 (.cells #[.int .i64 d, .bool box, .bool line, .bool li] 61)
  rw [hsz] at a2
  obtain ⟨w2, hw2⟩ : ∃ w2 : World, w2 = w1.alloc (.cells #[.int .i64 d, .bool box, .bool line, .bool li] 61) := ⟨_, rfl⟩
  rw [← hw2] at x2 b2 a2 ⊢
  clear hw2 hsz x1 bb
  have n1 := cellOf b2 (i := 1) (v := .slice y1 n.attrs.length y2) rfl
  have n2 := cellOf b2 (i := 2) (v := .string n.text) rfl
  have n3 := cellOf b2 (i := 3) (v := .slice y3 n.kids.length y4) rfl
  have B2 := Lib.hid b2
  have A2 := Lib.hid a2
  have X2 := Lib.hid x2
  clear b2 a2 x2
  by_cases h1 : n.attrs.length = 0
  · have e1 : ((n.attrs.length : Int) == 0) = true := by simpa using h1
    have H1 := Lib.hid h1
    clear h1
    by_cases h2 : n.kids.length = 0
    · have e2 : ((n.kids.length : Int) == 0) = true := by simpa using h2
      have H2 := Lib.hid h2
      clear h2
      by_cases h3 : n.text.size = 0
      · have e3 : (n.text.toList == ([] : List UInt8)) = true := by rw [ByteArray.toList_eq, show n.text.data.toList = [] from List.eq_nil_of_length_eq_zero h3]; rfl
        have hr0 : r = false := by rw [← HR9.out]; unfold textOk; simp [h3]
        subst hr0
        clear h3
        go_wp2_with fail
        go_ret
        exact ⟨rfl, X2.out⟩
      · have e3 : (n.text.toList == ([] : List UInt8)) = false := by
          rw [ByteArray.toList_eq]
          cases hd : n.text.data.toList with
          | nil => exact absurd (show n.text.size = 0 by show n.text.data.toList.length = 0; rw [hd]; rfl) h3
          | cons a l => rfl
        obtain ⟨cv, cw, q1, q2, q3⟩ := conv_pair n.text HS.out w2
        have n2' := q3.cell n2
        have a1 := q3.cell (cellOf A2.out (i := 1) (v := .bool box) rfl)
        have X3 := Lib.hid (X2.out.trans q3)
        have H3 := Lib.hid h3
        clear h3 q3
        by_cases h4 : anewB n.text = n.text
        · have e4 : ((anewB n.text).toList == n.text.toList) = true := by rw [str_eq]; exact decide_eq_true h4
          have hr4 : r = !(box && n.text.data.toList.all blankB) := by
            rw [← HR9.out]; unfold textOk
            have k1 : n.attrs.isEmpty = true := by simpa using H1.out
            have k2 : n.kids.isEmpty = true := by simpa using H2.out
            have k3 : decide (n.text.size ≠ 0) = true := by simpa using H3.out
            rw [k1, k2, k3, decide_eq_true h4]; simp
          rw [h4] at q2 e4
          have HR4 := Lib.hid hr4
          clear h4 hr4
          cases box with
          | false =>
            have hr0 : r = true := by rw [HR4.out]; rfl
            subst hr0
            go_wp2_with fail
            go_ret
            exact ⟨rfl, X3.out⟩
          | true =>
            have HT := Lib.hid (Trim_any n.text ⟨#[32, 9, 10, 12, 13]⟩ cw (by have := HS.out; omega) (by decide) (by
              intro j c hj
              have : c ∈ ([32, 9, 10, 12, 13] : List UInt8) := List.mem_of_getElem? hj
              revert this
              simp only [List.mem_cons, List.not_mem_nil, or_false]
              rintro (rfl | rfl | rfl | rfl | rfl) <;> decide))
            obtain ⟨tz, htz⟩ : ∃ tz : ByteArray, (⟨(Lib.trimS n.text.data.toList (⟨#[32, 9, 10, 12, 13]⟩ : ByteArray).data.toList).toArray⟩ : ByteArray) = tz := ⟨_, rfl⟩
            rw [htz] at HT
            have hr0 : r = !(tz.toList == ([] : List UInt8)) := by
              rw [HR4.out, ByteArray.toList_eq, ← htz]
              have hb := trim_blank n.text.data.toList
              have e9 : (Lib.trimS n.text.data.toList [32, 9, 10, 12, 13] == ([] : List UInt8)) = n.text.data.toList.all blankB := by
                rw [Bool.eq_iff_iff, beq_iff_eq]; exact hb
              rw [Bool.true_and, ← e9]
            have HR0 := Lib.hid hr0
            clear hr0 htz
            have ht : (tz.toList == ([] : List UInt8)) = true ∨ (tz.toList == ([] : List UInt8)) = false := by cases (tz.toList == ([] : List UInt8)); exact .inr rfl; exact .inl rfl
            rcases ht with ht | ht
            · have hr1 : r = false := by rw [HR0.out, ht]; rfl
              subst hr1
              go_wp2_with (go_at_call 95; refine HT.out.mono ?_)
              rintro e w4 ⟨rfl, x4⟩
              have X4 := Lib.hid (X3.out.trans x4)
              clear x4
              go_wp2_with fail
              go_ret
              exact ⟨rfl, X4.out⟩
            · have hr1 : r = true := by rw [HR0.out, ht]; rfl
              subst hr1
              go_wp2_with (go_at_call 95; refine HT.out.mono ?_)
              rintro e w4 ⟨rfl, x4⟩
              have X4 := Lib.hid (X3.out.trans x4)
              clear x4
              go_wp2_with fail
              go_ret
              exact ⟨rfl, X4.out⟩
        · have e4 : ((anewB n.text).toList == n.text.toList) = false := by rw [str_eq]; exact decide_eq_false h4
          have hr0 : r = false := by rw [← HR9.out]; unfold textOk; rw [decide_eq_false h4]; simp
          subst hr0
          clear h4
          go_wp2_with fail
          go_ret
          exact ⟨rfl, X3.out⟩
    · have e2 : ((n.kids.length : Int) == 0) = false := by simpa using h2
      have hr0 : r = false := by rw [← HR9.out]; unfold textOk; rw [isEmpty_no h2]; simp
      subst hr0
      clear h2
      go_wp2_with fail
      go_ret
      exact ⟨rfl, X2.out⟩
  · have e1 : ((n.attrs.length : Int) == 0) = false := by simpa using h1
    have hr0 : r = false := by rw [← HR9.out]; unfold textOk; rw [isEmpty_no h1]; simp
    subst hr0
    clear h1
    go_wp2_with fail
    go_ret
    exact ⟨rfl, X2.out⟩
/-- behind a look: the answer; the count, if all may be; nothing else of what there was has turned -/
def Looked (b c k : Nat) (ok : Bool) (w : World) (e : Ending) (w' : World) : Prop :=
  ∃ c' : Nat, e = .returned (.bool (ok && decide (c + k ≤ 2000))) ∧ ExtB b w w' ∧ One w' b (.int .i64 c') 58 ∧ ((ok && decide (c + k ≤ 2000)) = true → c' = c + k)
def NOk (w0 : World) (n : PN) : Prop := ∀ (b c : Nat) (d : Int) (box line li : Bool) (w : World) (v : Value), RdN w0 n v → Ext w0 w → w0.heap.size ≤ b → One w b (.int .i64 c) 58 → c ≤ 2000 → 0 ≤ d → d ≤ 41 →
  Calls Tryd.prog 52 #[.pointer (some ⟨b, 0, none⟩), v, .agg #[.int .i64 d, .bool box, .bool line, .bool li]] w (Looked b c n.size (n.norm d box line li) w)
def KOk (w0 : World) (n : PN) : Prop := ∀ (b c : Nat) (d : Int) (box line li : Bool) (w : World) (v : Value), RdN w0 n v → Ext w0 w → w0.heap.size ≤ b → One w b (.int .i64 c) 58 → c ≤ 2000 → 0 ≤ d → d ≤ 41 →
  Calls Tryd.prog 33 #[.pointer (some ⟨b, 0, none⟩), v, .agg #[.int .i64 d, .bool box, .bool line, .bool li]] w (Looked b c (PN.sizes n.kids) (PN.norms d box line li false n.kids) w)
/-- the kid ahead of a place is a text -/
def prevT (l : List PN) : Nat → Bool
  | 0 => false
  | k + 1 => (l[k]?).any fun x => x.tag == 0
theorem norms_at (d : Int) (box line li : Bool) {l : List PN} {k : Nat} {x : PN} (h : l[k]? = some x) : PN.norms d box line li (prevT l k) (l.drop k) = (!(prevT l k && x.tag == 0) && x.norm d box line li && PN.norms d box line li (prevT l (k + 1)) (l.drop (k + 1))) := by
  obtain ⟨hk, e⟩ := List.getElem?_eq_some_iff.1 h
  have h1 : l.drop k = x :: l.drop (k + 1) := by rw [← e]; exact List.drop_eq_getElem_cons hk
  have h2 : prevT l (k + 1) = (x.tag == 0) := by simp [prevT, h]
  rw [h1, h2]; rfl
theorem sizes_at {l : List PN} {k : Nat} {x : PN} (h : l[k]? = some x) : PN.sizes (l.drop k) = x.size + PN.sizes (l.drop (k + 1)) := by
  obtain ⟨hk, e⟩ := List.getElem?_eq_some_iff.1 h
  have h1 : l.drop k = x :: l.drop (k + 1) := by rw [← e]; exact List.drop_eq_getElem_cons hk
  rw [h1]; rfl
set_option maxHeartbeats 2000000 in
set_option maxRecDepth 100000 in
theorem kids_of {w0 : World} {n : PN} (ih : ∀ k ∈ n.kids, NOk w0 k) : KOk w0 n := by
  intro b c d box line li w v hr hx hb ho hc hd hd2
  obtain ⟨av, kv, rfl, ha, hk⟩ := hr.open
  obtain ⟨ao, ac, rfl, _⟩ := ha.len_of
  obtain ⟨ka, kc, rfl, hk1, hk2, hk3, hk4⟩ := hk
  have hbl := ho.lt
  have x1 := ((Ext.refl w).alloc (.cells #[.int .i64 n.tag, .slice ao n.attrs.length ac, .string n.text, .slice ka n.kids.length kc] 25))
  have bb := heap_alloc_new w (.cells #[.int .i64 n.tag, .slice ao n.attrs.length ac, .string n.text, .slice ka n.kids.length kc] 25)
  obtain ⟨ok, hok⟩ : ∃ ok, PN.norms d box line li false n.kids = ok := ⟨_, rfl⟩
  rw [hok]
  have HOK := Lib.hid hok
  have HK3 := Lib.hid hk3
  have HK4 := Lib.hid hk4
  have HIH := Lib.hid ih
  have HX := Lib.hid hx
  have HONE := Lib.hid ho
  have HNB := Lib.hid hb
  unfold maxLen at hk2
  clear hok hk3 hk4 ih hx ho hr ha hb
  go_enter Tryd.func33, Tryd.ntmps33
  go_upto_region 1 with fail
  obtain ⟨w1, hw1⟩ : ∃ w1 : World, w1 = w.alloc (.cells #[.int .i64 n.tag, .slice ao n.attrs.length ac, .string n.text, .slice ka n.kids.length kc] 25) := ⟨_, rfl⟩
  have hsz : w1.heap.size = w.heap.size + 1 := by rw [hw1]; simp
  rw [← hw1] at x1 bb ⊢
  clear hw1
  have x2 := x1.alloc (.cells #[.int .i64 d, .bool box, .bool line, .bool li] 61)
  have b2 := ((Ext.refl w1).alloc (.cells #[.int .i64 d, .bool box, .bool line, .bool li] 61)).block bb
  have a2 := heap_alloc_new w1 (.cells #[.int .i64 d, .bool box, .bool line, .bool li] 61)
  rw [hsz] at a2
  obtain ⟨w2, hw2⟩ : ∃ w2 : World, w2 = w1.alloc (.cells #[.int .i64 d, .bool box, .bool line, .bool li] 61) := ⟨_, rfl⟩
  rw [← hw2] at x2 b2 a2 ⊢
  clear hw2 hsz x1 bb
  have n3 := cellOf b2 (i := 3) (v := .slice ka n.kids.length kc) rfl
  have B2 := Lib.hid b2
  have A2 := Lib.hid a2
  have X2 := Lib.hid x2
  clear b2 a2 x2
  go_wp2_with fail
  clear n3
  have fin : ∀ (q : Bool) (u : World) (c' : Nat), (ok && decide (c + PN.sizes n.kids ≤ 2000)) = q → ExtB b w2 u → One u b (.int .i64 c') 58 → (q = true → c' = c + PN.sizes n.kids) → Looked b c (PN.sizes n.kids) ok w (.returned (.bool q)) u := by
    intro q u c' h1 h2 h3 h4
    exact ⟨c', by rw [h1], (X2.out.toB b).trans h2, h3, by rw [h1]; exact h4⟩
  have FIN := Lib.hid fin
  clear fin
  go_loopw [7, 8, 12] (fun _ _ i wr => ∃ k ck : Nat, k ≤ n.kids.length ∧ i = .int .i64 k ∧ ExtB b w2 wr ∧ One wr b (.int .i64 ck) 58 ∧ ck = c + PN.sizes (n.kids.take k) ∧ ck ≤ 2000 ∧ PN.norms d box line li (prevT n.kids k) (n.kids.drop k) = ok) (fun _ _ i _ => n.kids.length - (intOf i).toNat)
  case atStart => exact ⟨0, c, Nat.zero_le _, rfl, ExtB.refl _ _, HONE.out.ext X2.out, by simp [PN.sizes], hc, HOK.out⟩
  case round =>
    obtain ⟨k, ck, hk, rfl, xr, hone, hck, hck2, hn⟩ := hrel
    have XR := Lib.hid xr
    have HN := Lib.hid hn
    have HCK := Lib.hid hck
    have HONR := Lib.hid hone
    clear hn hck
    by_cases hlt : k < n.kids.length
    · obtain ⟨x, hx⟩ : ∃ x, n.kids[k]? = some x := ⟨n.kids[k], by simp [hlt]⟩
      cases ka with
      | none => exact absurd (HK3.out rfl).1 (by omega)
      | some a =>
        obtain ⟨bk, off, sp⟩ := a
        obtain ⟨c0', c1', c2', c3', q0, q1, q2, q3, hrd⟩ := HK4.out _ rfl k x hx
        obtain ⟨y1, y2, y3, y4, en⟩ := hrd.shape
        cases en
        have hxx : Ext w0 wr := xr.ext (HX.out.trans X2.out) HNB.out
        replace q0 := hxx.cells _ _ q0
        replace q1 := hxx.cells _ _ q1
        replace q2 := hxx.cells _ _ q2
        replace q3 := hxx.cells _ _ q3
        rw [add_later _ _ _ (by decide)] at q1 q2 q3
        have n3 := cellOf (xr.heap B2.out (by omega)) (i := 3) (v := .slice (some ⟨bk, off, sp⟩) n.kids.length kc) rfl
        have HXX := Lib.hid hxx
        have HRD := Lib.hid hrd
        have KX := Lib.hid hx
        clear hxx hrd hx xr hone
        go_upto_region 4 with fail --KIDS
        obtain ⟨wz, hwz⟩ : ∃ wz : World, wz = wr.alloc (.cells #[.int .i64 x.tag, .slice y1 x.attrs.length y2, .string x.text, .slice y3 x.kids.length y4] 25) := ⟨_, rfl⟩
        have xz : Ext wr wz := by rw [hwz]; exact (Ext.refl wr).alloc _
        have bz : wz.heap[wr.heap.size]? = some (.cells #[.int .i64 x.tag, .slice y1 x.attrs.length y2, .string x.text, .slice y3 x.kids.length y4] 25 (0, 0)) := by rw [hwz]; exact heap_alloc_new wr _
        rw [← hwz]
        clear hwz q1 q2 q3
        have XZ := Lib.hid (XR.out.trans (xz.toB b))
        have m0 := cellOf bz (i := 0) (v := .int .i64 x.tag) rfl
        have m1 := cellOf bz (i := 1) (v := .slice y1 x.attrs.length y2) rfl
        have m2 := cellOf bz (i := 2) (v := .string x.text) rfl
        have m3 := cellOf bz (i := 3) (v := .slice y3 x.kids.length y4) rfl
        have az := XZ.out.heap A2.out (show w.heap.size + 1 ≠ b by omega)
        have v0 := cellOf az (i := 0) (v := .int .i64 d) rfl
        have v1 := cellOf az (i := 1) (v := .bool box) rfl
        have v2 := cellOf az (i := 2) (v := .bool line) rfl
        have v3 := cellOf az (i := 3) (v := .bool li) rfl
        replace n3 := xz.cell n3
        have HCALL := Lib.hid (HIH.out x (List.mem_of_getElem? KX.out) b ck d box line li wz _ HRD.out (HXX.out.trans xz) HNB.out (HONR.out.ext xz) hck2 hd hd2)
        have htk : PN.sizes (n.kids.take (k + 1)) = PN.sizes (n.kids.take k) + x.size := by
          obtain ⟨hlt', hxe⟩ := List.getElem?_eq_some_iff.1 KX.out
          rw [List.take_succ_eq_append_getElem hlt', hxe, sizes_append]; simp [PN.sizes]
        have hall : PN.sizes (n.kids.take k) + x.size ≤ PN.sizes n.kids := sizes_take_succ KX.out
        have got : (prevT n.kids k && x.tag == 0) = false → (x.norm d box line li && decide (ck + x.size ≤ 2000)) = true → ck + x.size = c + PN.sizes (n.kids.take (k + 1)) ∧ ck + x.size ≤ 2000 ∧ PN.norms d box line li (prevT n.kids (k + 1)) (n.kids.drop (k + 1)) = ok := by
          intro h1 h2
          simp only [Bool.and_eq_true, decide_eq_true_eq] at h2
          have := HN.out
          rw [norms_at d box line li KX.out, h1, h2.1] at this
          have e := HCK.out
          exact ⟨by omega, h2.2, by simpa using this⟩
        have bad : (prevT n.kids k && x.tag == 0) = true ∨ (x.norm d box line li && decide (ck + x.size ≤ 2000)) = false → (ok && decide (c + PN.sizes n.kids ≤ 2000)) = false := by
          intro h
          have h3 := HN.out
          rw [norms_at d box line li KX.out] at h3
          rcases h with h | h
          · rw [h] at h3; rw [← h3]; simp
          · cases hx1 : x.norm d box line li
            · rw [hx1] at h3; rw [← h3]; simp
            · rw [hx1] at h
              have h5 : ¬ ck + x.size ≤ 2000 := by simpa using h
              have e := HCK.out
              rw [decide_eq_false (by omega)]; simp
        have ONZ := Lib.hid (HONR.out.ext xz)
        have GOT := Lib.hid got
        have BAD := Lib.hid bad
        clear got bad bz az xz htk hall
        by_cases hk0 : k = 0
        · have hpt : (prevT n.kids k && x.tag == 0) = false := by rw [hk0]; rfl
          have g0 : ¬ (0 : Int) < (k : Int) := by omega
          clear hk0
          have hr1 : (x.norm d box line li && decide (ck + x.size ≤ 2000)) = true ∨ (x.norm d box line li && decide (ck + x.size ≤ 2000)) = false := by cases (x.norm d box line li && decide (ck + x.size ≤ 2000)); exact .inr rfl; exact .inl rfl
          rcases hr1 with hr1 | hr1
          · go_wp2_with (go_at_call 52; refine HCALL.out.mono ?_)
            rintro e w4 ⟨c4, rfl, x4, o4, h4⟩
            rw [hr1]
            have R4 := Lib.hid (h4 hr1)
            have X4 := Lib.hid (XZ.out.trans x4)
            have O4 := Lib.hid o4
            have GT := Lib.hid (GOT.out hpt hr1)
            clear x4 o4 h4 m0 m1 m2 m3 v0 v1 v2 v3 n3 hr1
            go_wp2_with fail
            go_roundw
            case rel => exact ⟨k + 1, c4, by omega, by go_num, X4.out, O4.out, by rw [R4.out]; exact GT.out.1, by rw [R4.out]; exact GT.out.2.1, GT.out.2.2⟩
            case measure => simp [intOf]; omega
          · go_wp2_with (go_at_call 52; refine HCALL.out.mono ?_)
            rintro e w4 ⟨c4, rfl, x4, o4, h4⟩
            rw [hr1]
            have X4 := Lib.hid (XZ.out.trans x4)
            have O4 := Lib.hid o4
            have BD := Lib.hid (BAD.out (.inr hr1))
            clear x4 o4 h4 m0 m1 m2 m3 v0 v1 v2 v3 n3 hr1
            go_wp2_with fail
            go_ret
            exact FIN.out _ _ _ BD.out X4.out O4.out (fun h => by cases h)
        · have g0 : (0 : Int) < (k : Int) := by omega
          rcases tagB x.tag with ht | ht
          · have hwr : IntKind.i64.wrap ((k : Int) - 1) = ((k - 1 : Nat) : Int) := by rw [IntWalk.i64_left, IntWalk.wrap64_in _ (by omega)]; omega
            obtain ⟨p, hp⟩ : ∃ p, n.kids[k - 1]? = some p := ⟨_, List.getElem?_eq_getElem (show k - 1 < n.kids.length by omega)⟩
            obtain ⟨d0', d1', d2', d3', r0, _, _, _, hrp⟩ := HK4.out _ rfl (k - 1) p hp
            obtain ⟨z1, z2, z3, z4, en⟩ := hrp.shape
            cases en
            replace r0 := (XZ.out.ext (HX.out.trans X2.out) HNB.out).cells _ _ r0
            have hpt0 : prevT n.kids k = (p.tag == 0) := by
              obtain ⟨j, rfl⟩ : ∃ j, k = j + 1 := ⟨k - 1, by omega⟩
              simp only [Nat.add_sub_cancel] at hp
              simp [prevT, hp]
            have b0 : (0 : Int) ≤ ((k - 1 : Nat) : Int) := by omega
            have b1 : ((k - 1 : Nat) : Int) < (n.kids.length : Int) := by omega
            generalize k - 1 = j at *
            clear hp hrp
            rcases tagB p.tag with hq | hq
            · have hpt : (prevT n.kids k && x.tag == 0) = true := by rw [hpt0, hq, ht]; rfl
              have BD := Lib.hid (BAD.out (.inl hpt))
              have OZ := Lib.hid (HONR.out)
              clear hk0 hpt hpt0
              go_wp2_with fail
              go_ret
              exact FIN.out _ _ _ BD.out XZ.out ONZ.out (fun h => by cases h)
            · have hpt : (prevT n.kids k && x.tag == 0) = false := by rw [hpt0, hq]; rfl
              clear hk0 hpt0
              have hr1 : (x.norm d box line li && decide (ck + x.size ≤ 2000)) = true ∨ (x.norm d box line li && decide (ck + x.size ≤ 2000)) = false := by cases (x.norm d box line li && decide (ck + x.size ≤ 2000)); exact .inr rfl; exact .inl rfl
              rcases hr1 with hr1 | hr1
              · go_wp2_with (go_at_call 52; refine HCALL.out.mono ?_)
                rintro e w4 ⟨c4, rfl, x4, o4, h4⟩
                rw [hr1]
                have R4 := Lib.hid (h4 hr1)
                have X4 := Lib.hid (XZ.out.trans x4)
                have O4 := Lib.hid o4
                have GT := Lib.hid (GOT.out hpt hr1)
                clear x4 o4 h4 m0 m1 m2 m3 v0 v1 v2 v3 n3 hr1
                go_wp2_with fail
                go_roundw
                case rel => exact ⟨k + 1, c4, by omega, by go_num, X4.out, O4.out, by rw [R4.out]; exact GT.out.1, by rw [R4.out]; exact GT.out.2.1, GT.out.2.2⟩
                case measure => simp [intOf]; omega
              · go_wp2_with (go_at_call 52; refine HCALL.out.mono ?_)
                rintro e w4 ⟨c4, rfl, x4, o4, h4⟩
                rw [hr1]
                have X4 := Lib.hid (XZ.out.trans x4)
                have O4 := Lib.hid o4
                have BD := Lib.hid (BAD.out (.inr hr1))
                clear x4 o4 h4 m0 m1 m2 m3 v0 v1 v2 v3 n3 hr1
                go_wp2_with fail
                go_ret
                exact FIN.out _ _ _ BD.out X4.out O4.out (fun h => by cases h)
          · have hpt : (prevT n.kids k && x.tag == 0) = false := by rw [ht]; simp
            clear hk0
            have hr1 : (x.norm d box line li && decide (ck + x.size ≤ 2000)) = true ∨ (x.norm d box line li && decide (ck + x.size ≤ 2000)) = false := by cases (x.norm d box line li && decide (ck + x.size ≤ 2000)); exact .inr rfl; exact .inl rfl
            rcases hr1 with hr1 | hr1
            · go_wp2_with (go_at_call 52; refine HCALL.out.mono ?_)
              rintro e w4 ⟨c4, rfl, x4, o4, h4⟩
              rw [hr1]
              have R4 := Lib.hid (h4 hr1)
              have X4 := Lib.hid (XZ.out.trans x4)
              have O4 := Lib.hid o4
              have GT := Lib.hid (GOT.out hpt hr1)
              clear x4 o4 h4 m0 m1 m2 m3 v0 v1 v2 v3 n3 hr1
              go_wp2_with fail
              go_roundw
              case rel => exact ⟨k + 1, c4, by omega, by go_num, X4.out, O4.out, by rw [R4.out]; exact GT.out.1, by rw [R4.out]; exact GT.out.2.1, GT.out.2.2⟩
              case measure => simp [intOf]; omega
            · go_wp2_with (go_at_call 52; refine HCALL.out.mono ?_)
              rintro e w4 ⟨c4, rfl, x4, o4, h4⟩
              rw [hr1]
              have X4 := Lib.hid (XZ.out.trans x4)
              have O4 := Lib.hid o4
              have BD := Lib.hid (BAD.out (.inr hr1))
              clear x4 o4 h4 m0 m1 m2 m3 v0 v1 v2 v3 n3 hr1
              go_wp2_with fail
              go_ret
              exact FIN.out _ _ _ BD.out X4.out O4.out (fun h => by cases h)
    · obtain rfl : k = n.kids.length := by omega
      have hn := HN.out
      rw [List.drop_length] at hn
      have hck := HCK.out
      rw [List.take_length] at hck
      have hz : (ok && decide (c + PN.sizes n.kids ≤ 2000)) = true := by rw [← hn, decide_eq_true (by omega)]; rfl
      have HZ := Lib.hid hz
      have CK := Lib.hid hck
      clear hn hck hz xr hone
      go_wp2_with fail
      go_ret
      exact FIN.out _ _ _ HZ.out XR.out HONR.out (fun _ => CK.out)
end Go.Proofs.YtdafdoodegpdhaaDoor
