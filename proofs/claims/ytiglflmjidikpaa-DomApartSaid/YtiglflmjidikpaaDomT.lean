/- Package dom: Attrs, Kids, Index of a node; the errors of Insert and Remove. -/
import Derived.Test.YtiglflmjidikpaaDomS
namespace Go.Proofs.Ytiglflmjidikpaa
open Go Go.RowKit Go.BigFrame
set_option linter.unusedVariables false
set_option linter.unusedSimpArgs false

set_option maxRecDepth 100000 in
set_option maxHeartbeats 1000000 in
theorem Attrs_none {w : World} {own : Ow} {ptr : Nat → Nat} {tb : Nat} {T : Tr} (hT : TreeAt w own ptr tb T) {id : Int} (h : T.get? id = none) :
    Calls Try.prog 47 #[.pointer (some ⟨tb, 0, none⟩), .int .i64 id] w (RVal (.slice none 0 0) w) := by
  have H := Lib.hid h
  clear h
  go_enter Try.func47, Try.ntmps47
  go_wp2_with (go_at_call 80; refine (get_none hT H.out).mono ?_; rintro e w' ⟨rfl, rfl⟩)
  go_ret
  exact ⟨rfl, Ext.refl _⟩
set_option maxRecDepth 100000 in
set_option maxHeartbeats 1000000 in
theorem Attrs_some {w : World} {own : Ow} {ptr : Nat → Nat} {tb : Nat} {T : Tr} (hT : TreeAt w own ptr tb T) {id : Int} {nd : Nd} (h : T.get? id = some nd) (hl : nd.attrs.length ≤ 60000) :
    Calls Try.prog 47 #[.pointer (some ⟨tb, 0, none⟩), .int .i64 id] w (RRow 44 2 nd.attrs.length (attrCells nd.attrs) w) := by
  have H := Lib.hid h
  have hn := (Tr.get_lt h).2.2
  obtain ⟨av, kv, hb, _, ha, _⟩ := hT.node _ _ hn
  have hr := RowP.rd ha
  obtain ⟨aa, acap, rfl, _⟩ := hr.len_of
  have c := cellOf hb (i := 1) (v := .slice aa nd.attrs.length acap) rfl
  have HR := Lib.hid hr
  have HL := Lib.hid hl
  clear h hb hn hr ha hl
  go_enter Try.func47, Try.ntmps47
  go_wp2_with (first
    | (go_at_call 80; refine (get_some hT H.out).mono ?_; rintro e w' ⟨rfl, rfl⟩)
    | (go_at_call 81; refine (cloneA_any HR.out HL.out (attrCells_one _)).mono ?_; rintro e w' ⟨v, rfl, hr, hx⟩))
  go_ret
  exact ⟨_, rfl, hr, hx⟩
set_option maxRecDepth 100000 in
set_option maxHeartbeats 1000000 in
theorem Kids_none {w : World} {own : Ow} {ptr : Nat → Nat} {tb : Nat} {T : Tr} (hT : TreeAt w own ptr tb T) {id : Int} (h : T.get? id = none) :
    Calls Try.prog 49 #[.pointer (some ⟨tb, 0, none⟩), .int .i64 id] w (RVal (.slice none 0 0) w) := by
  have H := Lib.hid h
  clear h
  go_enter Try.func49, Try.ntmps49
  go_wp2_with (go_at_call 80; refine (get_none hT H.out).mono ?_; rintro e w' ⟨rfl, rfl⟩)
  go_ret
  exact ⟨rfl, Ext.refl _⟩
theorem ints_one (l : List Int) : ∀ u ∈ l.map (Value.int .i64), u.oneCell' = true := by
  intro u hu
  obtain ⟨x, _, rfl⟩ := List.mem_map.1 hu
  rfl
set_option maxRecDepth 100000 in
set_option maxHeartbeats 1000000 in
theorem Kids_some {w : World} {own : Ow} {ptr : Nat → Nat} {tb : Nat} {T : Tr} (hT : TreeAt w own ptr tb T) {id : Int} {nd : Nd} (h : T.get? id = some nd) (hl : nd.kids.length ≤ 60000) :
    Calls Try.prog 49 #[.pointer (some ⟨tb, 0, none⟩), .int .i64 id] w (RRow 3 1 nd.kids.length (nd.kids.map (Value.int .i64)) w) := by
  have H := Lib.hid h
  have hn := (Tr.get_lt h).2.2
  obtain ⟨av, kv, hb, _, _, ha⟩ := hT.node _ _ hn
  have hr := RowP.rd ha
  obtain ⟨aa, acap, rfl, _⟩ := hr.len_of
  have c := cellOf hb (i := 3) (v := .slice aa nd.kids.length acap) rfl
  have HR := Lib.hid hr
  have HL := Lib.hid hl
  clear h hb hn hr ha hl
  go_enter Try.func49, Try.ntmps49
  go_wp2_with (first
    | (go_at_call 80; refine (get_some hT H.out).mono ?_; rintro e w' ⟨rfl, rfl⟩)
    | (go_at_call 82; refine (cloneI_any HR.out HL.out (ints_one _)).mono ?_; rintro e w' ⟨v, rfl, hr, hx⟩))
  go_ret
  exact ⟨_, rfl, hr, hx⟩
set_option maxRecDepth 100000 in
set_option maxHeartbeats 1000000 in
theorem Index_root {w : World} {own : Ow} {ptr : Nat → Nat} {tb : Nat} {T : Tr} (hT : TreeAt w own ptr tb T) {id : Int} (h : T.get? id = none ∨ ∃ nd, T.get? id = some nd ∧ T.get? nd.parent = none) :
    Calls Try.prog 35 #[.pointer (some ⟨tb, 0, none⟩), .int .i64 id] w (RVal (.int .i64 (-1)) w) := by
  rcases h with h | ⟨nd, h, h2⟩
  · have H := Lib.hid h
    have H2 : Hid (T.get? (-1) = none) := Lib.hid (by rfl)
    clear h
    go_enter Try.func35, Try.ntmps35
    go_wp2_with (first
      | (go_at_call 34; refine (Parent_none hT H.out).mono ?_; rintro e w' ⟨rfl, rfl⟩)
      | (go_at_call 80; refine (get_none hT H2.out).mono ?_; rintro e w' ⟨rfl, rfl⟩))
    go_ret
    exact ⟨rfl, Ext.refl _⟩
  · have H := Lib.hid h
    have H2 := Lib.hid h2
    clear h h2
    go_enter Try.func35, Try.ntmps35
    go_wp2_with (first
      | (go_at_call 34; refine (Parent_some hT H.out).mono ?_; rintro e w' ⟨rfl, rfl⟩)
      | (go_at_call 80; refine (get_none hT H2.out).mono ?_; rintro e w' ⟨rfl, rfl⟩))
    go_ret
    exact ⟨rfl, Ext.refl _⟩
set_option maxRecDepth 100000 in
set_option maxHeartbeats 1000000 in
theorem Index_kid {w : World} {own : Ow} {ptr : Nat → Nat} {tb : Nat} {T : Tr} (hT : TreeAt w own ptr tb T) {id : Int} {nd pd : Nd} (h : T.get? id = some nd) (h2 : T.get? nd.parent = some pd) (hl : pd.kids.length ≤ 60000) :
    Calls Try.prog 35 #[.pointer (some ⟨tb, 0, none⟩), .int .i64 id] w (RVal (.int .i64 (posOf pd.kids id)) w) := by
  have hn := (Tr.get_lt h2).2.2
  obtain ⟨av, kv, hb, _, _, ha⟩ := hT.node _ _ hn
  have hr := RowP.rd ha
  obtain ⟨aa, acap, rfl, _⟩ := hr.len_of
  have c := cellOf hb (i := 3) (v := .slice aa pd.kids.length acap) rfl
  have HR := Lib.hid hr
  have HL := Lib.hid hl
  have H := Lib.hid h
  have H2 := Lib.hid h2
  clear h h2 hb hn hr ha hl
  go_enter Try.func35, Try.ntmps35
  go_wp2_with (first
    | (go_at_call 34; refine (Parent_some hT H.out).mono ?_; rintro e w' ⟨rfl, rfl⟩)
    | (go_at_call 80; refine (get_some hT H2.out).mono ?_; rintro e w' ⟨rfl, rfl⟩)
    | (go_at_call 85; refine (index_any HR.out HL.out _).mono ?_; rintro e w' ⟨rfl, rfl⟩))
  go_ret
  exact ⟨rfl, Ext.refl _⟩

set_option maxRecDepth 100000 in
set_option maxHeartbeats 1000000 in
theorem Insert_none {w : World} {own : Ow} {ptr : Nat → Nat} {tb : Nat} {T : Tr} (hT : TreeAt w own ptr tb T) {p at' k : Int} (h : T.get? p = none ∨ T.get? k = none) :
    Calls Try.prog 21 #[.pointer (some ⟨tb, 0, none⟩), .int .i64 p, .int .i64 at', .int .i64 k] w (RVal (.int .i64 2) w) := by
  cases hp : T.get? p with
  | none =>
    have H := Lib.hid hp
    clear h
    cases hk : T.get? k with
    | none =>
      have HK := Lib.hid hk
      clear hp hk
      go_enter Try.func21, Try.ntmps21
      go_wp2_with fail
      refine (get_none hT H.out).mono ?_
      rintro e w' ⟨rfl, rfl⟩
      go_wp2_with fail
      refine (get_none hT HK.out).mono ?_
      rintro e w' ⟨rfl, rfl⟩
      go_wp2_with fail
      go_ret
      exact ⟨rfl, Ext.refl _⟩
    | some kd =>
      have HK := Lib.hid hk
      clear hp hk
      go_enter Try.func21, Try.ntmps21
      go_wp2_with fail
      refine (get_none hT H.out).mono ?_
      rintro e w' ⟨rfl, rfl⟩
      go_wp2_with fail
      refine (get_some hT HK.out).mono ?_
      rintro e w' ⟨rfl, rfl⟩
      go_wp2_with fail
      go_ret
      exact ⟨rfl, Ext.refl _⟩
  | some pd =>
    have H := Lib.hid hp
    have hk : T.get? k = none := by rcases h with h | h; rw [h] at hp; cases hp; exact h
    have HK := Lib.hid hk
    clear h hp hk
    go_enter Try.func21, Try.ntmps21
    go_wp2_with fail
    refine (get_some hT H.out).mono ?_
    rintro e w' ⟨rfl, rfl⟩
    go_wp2_with fail
    refine (get_none hT HK.out).mono ?_
    rintro e w' ⟨rfl, rfl⟩
    go_wp2_with fail
    go_ret
    exact ⟨rfl, Ext.refl _⟩
set_option maxRecDepth 100000 in
set_option maxHeartbeats 1000000 in
theorem Insert_kind {w : World} {own : Ow} {ptr : Nat → Nat} {tb : Nat} {T : Tr} (hT : TreeAt w own ptr tb T) {p at' k : Int} {pd kd : Nd} (hp : T.get? p = some pd) (hk : T.get? k = some kd) (ht : (pd.tag == 0) = true) :
    Calls Try.prog 21 #[.pointer (some ⟨tb, 0, none⟩), .int .i64 p, .int .i64 at', .int .i64 k] w (RVal (.int .i64 6) w) := by
  obtain ⟨avp, kvp, bp, _, _, hkp⟩ := hT.node _ _ (Tr.get_lt hp).2.2
  have cp0 := cellOf bp (i := 0) (v := .int .i64 pd.tag) rfl
  have H := Lib.hid hp
  have HK := Lib.hid hk
  clear hp hk bp hkp
  go_enter Try.func21, Try.ntmps21
  go_wp2_with fail
  refine (get_some hT H.out).mono ?_
  rintro e w' ⟨rfl, rfl⟩
  go_wp2_with fail
  refine (get_some hT HK.out).mono ?_
  rintro e w' ⟨rfl, rfl⟩
  go_wp2_with fail
  go_ret
  exact ⟨rfl, Ext.refl _⟩
set_option maxRecDepth 100000 in
set_option maxHeartbeats 2000000 in
theorem Insert_arg {w : World} {own : Ow} {ptr : Nat → Nat} {tb : Nat} {T : Tr} (hT : TreeAt w own ptr tb T) {p at' k : Int} {pd kd : Nd} (hp : T.get? p = some pd) (hk : T.get? k = some kd) (ht : (pd.tag == 0) = false)
    (h : k = 0 ∨ 0 ≤ kd.parent ∨ at' < 0 ∨ (pd.kids.length : Int) < at') :
    Calls Try.prog 21 #[.pointer (some ⟨tb, 0, none⟩), .int .i64 p, .int .i64 at', .int .i64 k] w (RVal (.int .i64 1) w) := by
  obtain ⟨avp, kvp, bp, _, _, hkp⟩ := hT.node _ _ (Tr.get_lt hp).2.2
  obtain ⟨avk, kvk, bk, _, _, _⟩ := hT.node _ _ (Tr.get_lt hk).2.2
  obtain ⟨ka, kcap, rfl, kc1, kc2⟩ := hkp.len
  have cp0 := cellOf bp (i := 0) (v := .int .i64 pd.tag) rfl
  have cp3 := cellOf bp (i := 3) (v := .slice ka pd.kids.length kcap) rfl
  have ck4 := cellOf bk (i := 4) (v := .int .i64 kd.parent) rfl
  have H := Lib.hid hp
  have HK := Lib.hid hk
  clear hp hk bp bk hkp kc1 kc2
  by_cases h1 : k = 0
  · have b1 : (k == 0) = true := by simp [h1]
    have H1 := Lib.hid h1
    clear h h1
    go_enter Try.func21, Try.ntmps21
    go_wp2_with fail
    refine (get_some hT H.out).mono ?_
    rintro e w' ⟨rfl, rfl⟩
    go_wp2_with fail
    refine (get_some hT HK.out).mono ?_
    rintro e w' ⟨rfl, rfl⟩
    go_wp2_with fail
    go_ret
    exact ⟨rfl, Ext.refl _⟩
  · have b1 : (k == 0) = false := by simpa using h1
    have H1 := Lib.hid h1
    clear h1
    by_cases h2 : 0 ≤ kd.parent
    · clear h
      go_enter Try.func21, Try.ntmps21
      go_wp2_with fail
      refine (get_some hT H.out).mono ?_
      rintro e w' ⟨rfl, rfl⟩
      go_wp2_with fail
      refine (get_some hT HK.out).mono ?_
      rintro e w' ⟨rfl, rfl⟩
      go_wp2_with fail
      go_ret
      exact ⟨rfl, Ext.refl _⟩
    · by_cases h3 : at' < 0
      · clear h
        go_enter Try.func21, Try.ntmps21
        go_wp2_with fail
        refine (get_some hT H.out).mono ?_
        rintro e w' ⟨rfl, rfl⟩
        go_wp2_with fail
        refine (get_some hT HK.out).mono ?_
        rintro e w' ⟨rfl, rfl⟩
        go_wp2_with fail
        go_ret
        exact ⟨rfl, Ext.refl _⟩
      · have h4 : (pd.kids.length : Int) < at' := by
          have := H1.out
          rcases h with h | h | h | h
          · exact absurd h this
          · exact absurd h h2
          · exact absurd h h3
          · exact h
        clear h
        go_enter Try.func21, Try.ntmps21
        go_wp2_with fail
        refine (get_some hT H.out).mono ?_
        rintro e w' ⟨rfl, rfl⟩
        go_wp2_with fail
        refine (get_some hT HK.out).mono ?_
        rintro e w' ⟨rfl, rfl⟩
        go_wp2_with fail
        go_ret
        exact ⟨rfl, Ext.refl _⟩
set_option maxRecDepth 100000 in
set_option maxHeartbeats 2000000 in
theorem Insert_loop {w : World} {own : Ow} {ptr : Nat → Nat} {tb : Nat} {T : Tr} (hT : TreeAt w own ptr tb T) {d : Nat → Nat} (hw : WF T d) {p k at' : Nat} {pd kd : Nd} (hp : T.nodes[p]? = some (some pd)) (hk : T.nodes[k]? = some (some kd))
    (htag : (pd.tag == 0) = false) (hk0 : k ≠ 0) (hpar : kd.parent = -1) (hat : at' ≤ pd.kids.length) (hin : T.within p k = true) :
    Calls Try.prog 21 #[.pointer (some ⟨tb, 0, none⟩), .int .i64 p, .int .i64 at', .int .i64 k] w (RVal (.int .i64 5) w) := by
  obtain ⟨avp, kvp, bp, _, _, hkp⟩ := hT.node p pd hp
  obtain ⟨avk, kvk, bk, _, _, _⟩ := hT.node k kd hk
  obtain ⟨ka, kcap, rfl, kc1, kc2⟩ := hkp.len
  have cp0 := cellOf bp (i := 0) (v := .int .i64 pd.tag) rfl
  have cp3 := cellOf bp (i := 3) (v := .slice ka pd.kids.length kcap) rfl
  have ck4 := cellOf bk (i := 4) (v := .int .i64 (-1)) (by rw [← hpar]; rfl)
  have hkb : ((k : Int) == 0) = false := by simp; omega
  have HP := Lib.hid (Tr.get_of hp)
  have HK := Lib.hid (Tr.get_of hk)
  have HNP := Lib.hid hp
  have HW := Lib.hid hw
  have HT := Lib.hid hT
  have HIN := Lib.hid hin
  clear hp hk hw hT hin bp bk hkp hpar hk0 kc2
  go_enter Try.func21, Try.ntmps21
  go_wp2_with fail
  refine (get_some HT.out HP.out).mono ?_
  rintro e w' ⟨rfl, rfl⟩
  go_wp2_with fail
  refine (get_some HT.out HK.out).mono ?_
  rintro e w' ⟨rfl, rfl⟩
  go_wp2_with fail
  refine (within_any HT.out HW.out HNP.out (by omega)).mono ?_
  rintro e w' ⟨rfl, rfl⟩
  rw [HIN.out]
  go_wp2_with fail
  go_ret
  exact ⟨rfl, Ext.refl _⟩
end Go.Proofs.Ytiglflmjidikpaa
