/- Package dom: SetTag, SetText, SetAttrs; Attrs, Kids, Index: what they answer, and the tree then. Conditions: at most 100000 bytes, 60000 attributes. -/
import Derived.Test.YtiglflmjidikpaaDomP
namespace Go.Proofs.Ytiglflmjidikpaa
open Go Go.RowKit Go.BigFrame
set_option linter.unusedVariables false
set_option linter.unusedSimpArgs false

theorem RowP.len_of' {w : World} {p : Nat → Prop} {e size : Nat} {v : Value} {n : Nat} {xs : List Value} (h : RowP w p e size v n xs) : ∃ a cap, v = .slice a n cap ∧ n ≤ cap := h.rd.len_of
def Tr.setAt (T : Tr) (i : Nat) (nd : Nd) : Tr := { T with nodes := T.nodes.set i (some nd) }
/-- a cell of a node is stored -/
theorem TreeAt.setTag {w : World} {own : Ow} {ptr : Nat → Nat} {tb : Nat} {T : Tr} (hT : TreeAt w own ptr tb T) {k : Nat} {kd : Nd} (hk : T.nodes[k]? = some (some kd)) (q : Int) :
    TreeAt (w.setCell ⟨ptr k, 0, none⟩ (.int .i64 q)) own ptr tb (T.setAt k { kd with tag := q }) := by
  obtain ⟨av, kv, b1, b2, b3, b4⟩ := hT.node k kd hk
  have other : ∀ b x, own b = some x → b ≠ ptr k → (w.setCell ⟨ptr k, 0, none⟩ (.int .i64 q)).heap[b]? = w.heap[b]? := fun b x hb hn => heap_setCell_other _ hn
  refine hT.setNode (nd' := { kd with tag := q }) hk ⟨av, kv, by rw [heap_setCell_same b1]; rfl, b2, RowP.move b3 fun g hg => ⟨other g _ hg (fun e => by rw [e, b2] at hg; cases hg), hg⟩, RowP.move b4 fun g hg => ⟨other g _ hg (fun e => by rw [e, b2] at hg; cases hg), hg⟩⟩ ?_
  intro b x hb hx
  exact ⟨other b x hb (fun e => by rw [e, b2] at hb; cases hb; exact hx (by simp) rfl), rfl⟩
theorem TreeAt.setText {w : World} {own : Ow} {ptr : Nat → Nat} {tb : Nat} {T : Tr} (hT : TreeAt w own ptr tb T) {k : Nat} {kd : Nd} (hk : T.nodes[k]? = some (some kd)) (s : ByteArray) :
    TreeAt (w.setCell ⟨ptr k, 2, none⟩ (.string s)) own ptr tb (T.setAt k { kd with text := s }) := by
  obtain ⟨av, kv, b1, b2, b3, b4⟩ := hT.node k kd hk
  have other : ∀ b x, own b = some x → b ≠ ptr k → (w.setCell ⟨ptr k, 2, none⟩ (.string s)).heap[b]? = w.heap[b]? := fun b x hb hn => heap_setCell_other _ hn
  refine hT.setNode (nd' := { kd with text := s }) hk ⟨av, kv, by rw [heap_setCell_same b1]; rfl, b2, RowP.move b3 fun g hg => ⟨other g _ hg (fun e => by rw [e, b2] at hg; cases hg), hg⟩, RowP.move b4 fun g hg => ⟨other g _ hg (fun e => by rw [e, b2] at hg; cases hg), hg⟩⟩ ?_
  intro b x hb hx
  exact ⟨other b x hb (fun e => by rw [e, b2] at hb; cases hb; exact hx (by simp) rfl), rfl⟩
/-- a new row of attributes, stored -/
theorem attrs_plain {w W : World} {own : Ow} {ptr : Nat → Nat} {tb : Nat} {T : Tr} (hO : Owned own w) (hT : TreeAt w own ptr tb T) (hx : Ext w W) {k : Nat} {kd : Nd} (hk : T.nodes[k]? = some (some kd))
    {v : Value} {attrs : List (ByteArray × ByteArray)} (hr : RowIn W w.heap.size 44 2 v attrs.length (attrCells attrs)) :
    After own w tb (T.setAt k { kd with attrs := attrs }) (W.setCell ⟨ptr k, 1, none⟩ v) := by
  obtain ⟨av, kv, b1, b2, b3, b4⟩ := hT.node k kd hk
  obtain ⟨rb, hr1, hr2⟩ := hr.block
  have hpl := hO (ptr k) (by simp [b2])
  have hsz := hx.size
  let own1 : Ow := fun b => if rb = some b then some (3, k) else own b
  have e1 : ∀ b x, own b = some x → own1 b = some x := fun b x hb => by
    show (if rb = some b then _ else _) = _
    rw [if_neg (fun h => by have := hr2 b h; have := hO b (by simp [hb]); omega)]; exact hb
  have hk' := hx.keep hO
  have other : ∀ b x, own b = some x → b ≠ ptr k → (W.setCell ⟨ptr k, 1, none⟩ v).heap[b]? = w.heap[b]? := fun b x hb hn => (heap_setCell_other _ hn).trans (hk' b (by simp [hb]))
  have hb3 : W.heap[ptr k]? = _ := (hk' (ptr k) (by simp [b2])).trans b1
  refine ⟨own1, ptr, hT.setNode (nd' := { kd with attrs := attrs }) hk ⟨v, kv, by rw [heap_setCell_same hb3]; rfl, e1 _ _ b2, RowP.move hr1 fun g hg => ?_, RowP.move b4 fun g hg => ⟨other g _ hg (fun e => by rw [e, b2] at hg; cases hg), e1 _ _ hg⟩⟩ ?_, ?_⟩
  · have := hr2 g hg
    exact ⟨heap_setCell_other _ (by show g ≠ ptr k; omega), if_pos hg⟩
  · intro b x hb hxx
    exact ⟨other b x hb (fun e => by rw [e, b2] at hb; cases hb; exact hxx (by simp) rfl), (e1 b x hb).trans hb.symm⟩
  · refine ((hx.step hO).own (fun x hx' => ?_) fun b hb => ?_).setCell (fun _ => by show own (ptr k) ≠ none; simp [b2]) _
    · show (if rb = some x then _ else _) = _
      rw [if_neg (fun h => by have := hr2 x h; omega)]
    · have hb' : (if rb = some b then some (3, k) else own b) ≠ none := hb
      split at hb'
      · rename_i h; exact (hr2 b h).2
      · have := hO b hb'; omega

set_option maxRecDepth 100000 in
set_option maxHeartbeats 1000000 in
theorem SetTag_none {w : World} {own : Ow} {ptr : Nat → Nat} {tb : Nat} {T : Tr} (hT : TreeAt w own ptr tb T) {id : Int} (h : T.get? id = none) (tag : Int) :
    Calls Try.prog 29 #[.pointer (some ⟨tb, 0, none⟩), .int .i64 id, .int .i64 tag] w (RVal (.int .i64 2) w) := by
  have H := Lib.hid h
  clear h
  go_enter Try.func29, Try.ntmps29
  go_wp2_with (go_at_call 80; refine (get_none hT H.out).mono ?_; rintro e w' ⟨rfl, rfl⟩)
  go_ret
  exact ⟨rfl, Ext.refl _⟩
set_option maxRecDepth 100000 in
set_option maxHeartbeats 1000000 in
theorem SetTag_kind {w : World} {own : Ow} {ptr : Nat → Nat} {tb : Nat} {T : Tr} (hT : TreeAt w own ptr tb T) {id : Int} {nd : Nd} (h : T.get? id = some nd) (ht : (nd.tag == 0) = true) (tag : Int) :
    Calls Try.prog 29 #[.pointer (some ⟨tb, 0, none⟩), .int .i64 id, .int .i64 tag] w (RVal (.int .i64 6) w) := by
  have H := Lib.hid h
  have hn := (Tr.get_lt h).2.2
  obtain ⟨av, kv, hb, _⟩ := hT.node _ _ hn
  have c := cellOf hb (i := 0) (v := .int .i64 nd.tag) rfl
  clear h hb hn
  go_enter Try.func29, Try.ntmps29
  go_wp2_with (go_at_call 80; refine (get_some hT H.out).mono ?_; rintro e w' ⟨rfl, rfl⟩)
  go_ret
  exact ⟨rfl, Ext.refl _⟩
set_option maxRecDepth 100000 in
set_option maxHeartbeats 1000000 in
theorem SetTag_arg {w : World} {own : Ow} {ptr : Nat → Nat} {tb : Nat} {T : Tr} (hT : TreeAt w own ptr tb T) {id : Int} {nd : Nd} (h : T.get? id = some nd) (ht : (nd.tag == 0) = false) (tag : Int) (hb : ¬ (1 ≤ tag ∧ tag ≤ 16) ∨ id = 0) :
    Calls Try.prog 29 #[.pointer (some ⟨tb, 0, none⟩), .int .i64 id, .int .i64 tag] w (RVal (.int .i64 1) w) := by
  have H := Lib.hid h
  have hn := (Tr.get_lt h).2.2
  obtain ⟨av, kv, hbk, _⟩ := hT.node _ _ hn
  have c := cellOf hbk (i := 0) (v := .int .i64 nd.tag) rfl
  clear h hbk hn
  by_cases h1 : 1 ≤ tag ∧ tag ≤ 16
  · have h0 : id = 0 := by rcases hb with hb | hb; exact absurd h1 hb; exact hb
    subst h0
    obtain ⟨g1, g2⟩ := h1
    simp only [Int.toNat_zero] at c
    clear hb
    go_enter Try.func29, Try.ntmps29
    go_wp2_with (first
      | (go_at_call 80; refine (get_some hT H.out).mono ?_; rintro e w' ⟨rfl, rfl⟩)
      | (go_at_call 90; refine (element_yes _ g1 g2 _).mono ?_; rintro e w' ⟨rfl, rfl⟩))
    go_ret
    exact ⟨rfl, Ext.refl _⟩
  · have HB := Lib.hid h1
    clear hb h1
    go_enter Try.func29, Try.ntmps29
    go_wp2_with (first
      | (go_at_call 80; refine (get_some hT H.out).mono ?_; rintro e w' ⟨rfl, rfl⟩)
      | (go_at_call 90; refine (element_no _ HB.out _).mono ?_; rintro e w' ⟨rfl, rfl⟩))
    go_ret
    exact ⟨rfl, Ext.refl _⟩
set_option maxRecDepth 100000 in
set_option maxHeartbeats 1000000 in
theorem SetTag_ok {w : World} {own : Ow} {ptr : Nat → Nat} {tb : Nat} {T : Tr} (hT : TreeAt w own ptr tb T) (hO : Owned own w) {i : Nat} {nd : Nd} (hn : T.nodes[i]? = some (some nd)) (ht : (nd.tag == 0) = false) (tag : Int) (g1 : 1 ≤ tag) (g2 : tag ≤ 16) (hi : i ≠ 0) :
    Calls Try.prog 29 #[.pointer (some ⟨tb, 0, none⟩), .int .i64 i, .int .i64 tag] w (ErrAfter own w tb 0 (T.setAt i { nd with tag := tag })) := by
  have H := Lib.hid (Tr.get_of hn)
  obtain ⟨av, kv, hb, hob, _⟩ := hT.node _ _ hn
  have c := cellOf hb (i := 0) (v := .int .i64 nd.tag) rfl
  have f := freeOf hb 0
  have hib : ((i : Int) == 0) = false := by simp; omega
  have HT := Lib.hid hT
  have HN := Lib.hid hn
  have HO := Lib.hid hO
  have HOB := Lib.hid hob
  clear hb hn hT hO hob hi
  go_enter Try.func29, Try.ntmps29
  go_wp2_with (first
    | (go_at_call 80; refine (get_some HT.out H.out).mono ?_; rintro e w' ⟨rfl, rfl⟩)
    | (go_at_call 90; refine (element_yes _ g1 g2 _).mono ?_; rintro e w' ⟨rfl, rfl⟩))
  go_ret
  exact ⟨rfl, own, ptr, HT.out.setTag HN.out tag, (Step.refl HO.out).setCell (fun _ => by show own (ptr i) ≠ none; rw [HOB.out]; simp) _⟩

set_option maxRecDepth 100000 in
set_option maxHeartbeats 1000000 in
theorem SetText_none {w : World} {own : Ow} {ptr : Nat → Nat} {tb : Nat} {T : Tr} (hT : TreeAt w own ptr tb T) (hO : Owned own w) {id : Int} (h : T.get? id = none) (s : ByteArray) (hs : s.size ≤ 100000) :
    Calls Try.prog 23 #[.pointer (some ⟨tb, 0, none⟩), .int .i64 id, .string s] w (RVal (.int .i64 2) w) := by
  have H := Lib.hid h
  have HS := Lib.hid hs
  clear h hs
  go_enter Try.func23, Try.ntmps23
  go_wp2_with (first
    | (go_at_call 80; refine (get_none (hT.keep (hx.keep hO)) H.out).mono ?_; rintro e w' ⟨rfl, rfl⟩)
    | (go_at_call 87; refine (anew_any _ HS.out _).mono ?_; rintro e w' ⟨rfl, hx⟩))
  go_ret
  exact ⟨rfl, hx⟩
set_option maxRecDepth 100000 in
set_option maxHeartbeats 1000000 in
theorem SetText_kind {w : World} {own : Ow} {ptr : Nat → Nat} {tb : Nat} {T : Tr} (hT : TreeAt w own ptr tb T) (hO : Owned own w) {id : Int} {nd : Nd} (h : T.get? id = some nd) (ht : (nd.tag != 0) = true) (s : ByteArray) (hs : s.size ≤ 100000) :
    Calls Try.prog 23 #[.pointer (some ⟨tb, 0, none⟩), .int .i64 id, .string s] w (RVal (.int .i64 6) w) := by
  have H := Lib.hid h
  have HS := Lib.hid hs
  have hn := (Tr.get_lt h).2.2
  obtain ⟨av, kv, hb, _⟩ := hT.node _ _ hn
  have c := cellOf hb (i := 0) (v := .int .i64 nd.tag) rfl
  have HC := Lib.hid c
  clear h hs hb hn c
  go_enter Try.func23, Try.ntmps23
  go_wp2_with (first
    | (go_at_call 80; refine (get_some (hT.keep (hx.keep hO)) H.out).mono ?_; rintro e w' ⟨rfl, rfl⟩; have c := hx.cell HC.out)
    | (go_at_call 87; refine (anew_any _ HS.out _).mono ?_; rintro e w' ⟨rfl, hx⟩))
  go_ret
  exact ⟨rfl, hx⟩
set_option maxRecDepth 100000 in
set_option maxHeartbeats 1000000 in
theorem SetText_long {w : World} {own : Ow} {ptr : Nat → Nat} {tb : Nat} {T : Tr} (hT : TreeAt w own ptr tb T) (hO : Owned own w) {id : Int} {nd : Nd} (h : T.get? id = some nd) (ht : (nd.tag != 0) = false) (s : ByteArray) (hs : s.size ≤ 100000) (hl : 8192 < (anewB s).size) :
    Calls Try.prog 23 #[.pointer (some ⟨tb, 0, none⟩), .int .i64 id, .string s] w (RVal (.int .i64 10) w) := by
  have H := Lib.hid h
  have HS := Lib.hid hs
  have hn := (Tr.get_lt h).2.2
  obtain ⟨av, kv, hb, _⟩ := hT.node _ _ hn
  have c := cellOf hb (i := 0) (v := .int .i64 nd.tag) rfl
  have HC := Lib.hid c
  have hm : (anewB s).size ≤ 400000 := by have := anewB_size s; omega
  clear h hs hb hn c
  go_enter Try.func23, Try.ntmps23
  go_wp2_with (first
    | (go_at_call 80; refine (get_some (hT.keep (hx.keep hO)) H.out).mono ?_; rintro e w' ⟨rfl, rfl⟩; have c := hx.cell HC.out)
    | (go_at_call 87; refine (anew_any _ HS.out _).mono ?_; rintro e w' ⟨rfl, hx⟩))
  go_ret
  exact ⟨rfl, hx⟩
set_option maxRecDepth 100000 in
set_option maxHeartbeats 1000000 in
theorem SetText_ok {w : World} {own : Ow} {ptr : Nat → Nat} {tb : Nat} {T : Tr} (hT : TreeAt w own ptr tb T) (hO : Owned own w) {i : Nat} {nd : Nd} (hn : T.nodes[i]? = some (some nd)) (ht : (nd.tag != 0) = false) (s : ByteArray) (hs : s.size ≤ 100000) (hl : (anewB s).size ≤ 8192) :
    Calls Try.prog 23 #[.pointer (some ⟨tb, 0, none⟩), .int .i64 i, .string s] w (ErrAfter own w tb 0 (T.setAt i { nd with text := anewB s })) := by
  have H := Lib.hid (Tr.get_of hn)
  have HS := Lib.hid hs
  obtain ⟨av, kv, hb, hob, _⟩ := hT.node _ _ hn
  have c := cellOf hb (i := 0) (v := .int .i64 nd.tag) rfl
  have f := freeOf hb 2
  have c2 := cellOf hb (i := 2) (v := .string nd.text) rfl
  have HC := Lib.hid c
  have HC2 := Lib.hid c2
  have HF := Lib.hid f
  have HT := Lib.hid hT
  have HN := Lib.hid hn
  have HO := Lib.hid hO
  have HOB := Lib.hid hob
  clear hb hn hT hO hob hs c f c2
  go_enter Try.func23, Try.ntmps23
  go_wp2_with (first
    | (go_at_call 80; refine (get_some (HT.out.keep (hx.keep HO.out)) H.out).mono ?_; rintro e w' ⟨rfl, rfl⟩; have c := hx.cell HC.out; have c2 := hx.cell HC2.out; have f := hx.free (cell_lt HC.out) HF.out)
    | (go_at_call 87; refine (anew_any _ HS.out _).mono ?_; rintro e w' ⟨rfl, hx⟩))
  go_ret
  exact ⟨rfl, own, ptr, (HT.out.keep (hx.keep HO.out)).setText HN.out _, (hx.step HO.out).setCell (fun _ => by show own (ptr i) ≠ none; rw [HOB.out]; simp) _⟩

set_option maxRecDepth 100000 in
set_option maxHeartbeats 1000000 in
theorem SetAttrs_none {w : World} {own : Ow} {ptr : Nat → Nat} {tb : Nat} {T : Tr} (hT : TreeAt w own ptr tb T) {id : Int} (h : T.get? id = none) (v : Value) :
    Calls Try.prog 24 #[.pointer (some ⟨tb, 0, none⟩), .int .i64 id, v] w (RVal (.int .i64 2) w) := by
  have H := Lib.hid h
  clear h
  go_enter Try.func24, Try.ntmps24
  go_wp2_with (go_at_call 80; refine (get_none hT H.out).mono ?_; rintro e w' ⟨rfl, rfl⟩)
  go_ret
  exact ⟨rfl, Ext.refl _⟩
set_option maxRecDepth 100000 in
set_option maxHeartbeats 1000000 in
theorem SetAttrs_kind {w : World} {own : Ow} {ptr : Nat → Nat} {tb : Nat} {T : Tr} (hT : TreeAt w own ptr tb T) {id : Int} {nd : Nd} (h : T.get? id = some nd) (ht : (nd.tag == 0) = true) (v : Value) :
    Calls Try.prog 24 #[.pointer (some ⟨tb, 0, none⟩), .int .i64 id, v] w (RVal (.int .i64 6) w) := by
  have H := Lib.hid h
  have hn := (Tr.get_lt h).2.2
  obtain ⟨av, kv, hb, _⟩ := hT.node _ _ hn
  have c := cellOf hb (i := 0) (v := .int .i64 nd.tag) rfl
  clear h hb hn
  go_enter Try.func24, Try.ntmps24
  go_wp2_with (go_at_call 80; refine (get_some hT H.out).mono ?_; rintro e w' ⟨rfl, rfl⟩)
  go_ret
  exact ⟨rfl, Ext.refl _⟩
set_option maxRecDepth 100000 in
set_option maxHeartbeats 1000000 in
theorem SetAttrs_ok {w : World} {own : Ow} {ptr : Nat → Nat} {tb : Nat} {T : Tr} (hT : TreeAt w own ptr tb T) (hO : Owned own w) {i : Nat} {nd : Nd} (hn : T.nodes[i]? = some (some nd)) (ht : (nd.tag == 0) = false)
    {av : Value} {attrs : List (ByteArray × ByteArray)} (ha : RowRd w 2 av attrs.length (attrCells attrs)) (hl : attrs.length ≤ 60000) :
    Calls Try.prog 24 #[.pointer (some ⟨tb, 0, none⟩), .int .i64 i, av] w (ErrAfter own w tb 0 (T.setAt i { nd with attrs := attrs })) := by
  obtain ⟨aa, acap, rfl, _⟩ := ha.len_of
  have H := Lib.hid (Tr.get_of hn)
  obtain ⟨av0, kv, hb, hob, _⟩ := hT.node _ _ hn
  have c := cellOf hb (i := 0) (v := .int .i64 nd.tag) rfl
  have f := freeOf hb 1
  have c1 := cellOf hb (i := 1) (v := av0) rfl
  have HC := Lib.hid c1
  have HF := Lib.hid f
  have HT := Lib.hid hT
  have HN := Lib.hid hn
  have HO := Lib.hid hO
  have HA := Lib.hid ha
  have HL := Lib.hid hl
  clear hb hn hT hO hob f c1 ha hl
  go_enter Try.func24, Try.ntmps24
  go_wp2_with (first
    | (go_at_call 80; refine (get_some HT.out H.out).mono ?_; rintro e w' ⟨rfl, rfl⟩)
    | (go_at_call 81; refine (cloneA_any HA.out HL.out (attrCells_one _)).mono ?_; rintro e w' ⟨v, rfl, hr, hx⟩; obtain ⟨a1, cap1, rfl, _⟩ := RowP.len_of' hr; have hr' := Lib.hid hr; clear hr; have c1 := hx.cell HC.out; have f := hx.free (cell_lt HC.out) HF.out))
  go_ret
  exact ⟨rfl, attrs_plain HO.out HT.out hx HN.out hr'.out⟩
end Go.Proofs.Ytiglflmjidikpaa
