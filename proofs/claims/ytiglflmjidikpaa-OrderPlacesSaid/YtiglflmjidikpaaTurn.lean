/- quillworkref08: Anew, turn, AnewNode, Size: a plain tree written anew, in memory of its own. Conditions: at most 60000 attributes in each node, texts of at most 100000 bytes, 100000 nodes. -/
import Derived.Test.YtiglflmjidikpaaCopyN
namespace Go.Proofs.Ytiglflmjidikpaa
open Go Go.RowKit Go.BigFrame
set_option linter.unusedVariables false
set_option linter.unusedSimpArgs false

set_option maxRecDepth 20000 in
set_option maxHeartbeats 400000 in
theorem Anew_any (s : ByteArray) (hs : s.size ≤ 100000) (w : World) : Calls Try.prog 127 #[.string s] w (RVal (.string (anewB s)) w) := by
  have h1 := run_runes_of_string (P := Try.prog) w 9 145 21 s Try.underlying9 Try.underlying145 Try.underlying21 (by have := size_runesFrom s s.size 0 #[]; simp at this; omega)
  have e1 : Conv.runesFrom s s.size 0 #[] = ((runeList s s.size 0).map (Value.int .i32)).toArray := by rw [runesFrom_eq]; simp
  have hz : anewB s = runesBytes (runeList s s.size 0) := rfl
  have HZ := Lib.hid hz
  rw [e1] at h1
  clear hz e1 hs
  generalize runeList s s.size 0 = l at *
  generalize hk : grownCap w (List.map (Value.int IntKind.i32) l).toArray.size 0 21 = K at *
  have hge := grownCap_ge w (List.map (Value.int IntKind.i32) l).toArray.size 0 21
  rw [hk] at hge
  clear hk
  generalize hC : (List.map (Value.int IntKind.i32) l).toArray ++ Array.replicate (K - (List.map (Value.int IntKind.i32) l).toArray.size) (Value.int IntKind.i32 0) = C at *
  have h2 := run_convert_runes (P := Try.prog) (w.drew.alloc (.cells C 21)) 145 9 21 ⟨w.heap.size, 0, none⟩ l.length K l (Nat.le_refl _) Try.underlying145 Try.underlying21 Try.underlying9
    (by
      intro j hj
      have hb : (w.drew.alloc (.cells C 21)).heap[w.heap.size]? = some (.cells C 21 (0, 0)) := heap_alloc_new w.drew _
      rw [Addr.add_lit, Nat.zero_add]
      refine cellOf hb ?_
      rw [← hC, Array.getElem?_append_left (by simpa using hj)]
      simp [hj])
  rw [List.take_length] at h2
  simp only [List.size_toArray, List.length_map] at h1
  clear hC hge
  have HH1 := Lib.hid h1
  have HH2 := Lib.hid h2
  clear h1 h2
  go_enter Try.func127, Try.ntmps127
  go_wp2_with fail
  rw [HH1.out]
  go_wp2_with fail
  have h2' : Sem.run Try.prog (convert 145 9 (Value.slice (some { block := w.heap.size, off := 0 }) l.length K)) (w.alloc (Obj.cells C 21)).drew = Result.ok (Value.string (runesBytes l)) (w.alloc (Obj.cells C 21)).drew := HH2.out
  rw [h2']
  clear h2'
  go_wp2_with fail
  go_ret
  exact ⟨by rw [HZ.out]; rfl, ((Ext.refl _).alloc _).drew⟩

/-- all blocks but those of F are as they were; new ones may be -/
structure Chg (F : Nat → Prop) (w w' : World) : Prop where
  os : w'.os = w.os
  tape : w'.tape = w.tape
  output : w'.output = w.output
  size : w.heap.size ≤ w'.heap.size
  rest : ∀ b, b < w.heap.size → ¬ F b → w'.heap[b]? = w.heap[b]?
theorem Chg.refl (F : Nat → Prop) (w : World) : Chg F w w := ⟨rfl, rfl, rfl, Nat.le_refl _, fun _ _ _ => rfl⟩
theorem Chg.trans {F : Nat → Prop} {a b c : World} (h : Chg F a b) (k : Chg F b c) : Chg F a c :=
  ⟨k.os.trans h.os, k.tape.trans h.tape, k.output.trans h.output, Nat.le_trans h.size k.size, fun x hx hn => (k.rest x (Nat.lt_of_lt_of_le hx h.size) hn).trans (h.rest x hx hn)⟩
theorem Chg.wide {F F' : Nat → Prop} {a b : World} (h : Chg F a b) (k : ∀ x, F x → F' x) : Chg F' a b :=
  ⟨h.os, h.tape, h.output, h.size, fun x hx hn => h.rest x hx fun hf => hn (k x hf)⟩
theorem Chg.ext {F : Nat → Prop} {a b : World} (h : Ext a b) : Chg F a b := ⟨h.os, h.tape, h.output, h.size, fun x hx _ => Below.block h x hx⟩
theorem Chg.set {F : Nat → Prop} {a b : World} (h : Chg F a b) {p : Addr} (hp : p.block < a.heap.size → F p.block) (u : Value) : Chg F a (b.setCell p u) :=
  ⟨h.os, h.tape, h.output, by simpa [World.setCell] using h.size, fun x hx hn => (heap_setCell_other (p := p) u (fun e => hn (by subst e; exact hp hx))).trans (h.rest x hx hn)⟩
theorem Chg.drew {F : Nat → Prop} {a b : World} (h : Chg F a b) : Chg F a b.drew := h.trans (Chg.ext (Ext.refl b).drew)
theorem Chg.block {F : Nat → Prop} {a b : World} (h : Chg F a b) {x : Nat} {o : Obj} (hx : a.heap[x]? = some o) (hn : ¬ F x) : b.heap[x]? = some o :=
  (h.rest x (Array.getElem?_eq_some_iff.1 hx).1 hn).trans hx
theorem Chg.cell {F : Nat → Prop} {a b : World} (h : Chg F a b) {q : Addr} {y : Value} (hq : a.cell? q = some y) (hn : ¬ F q.block) : b.cell? q = some y :=
  (World.cell?_of_block (h.rest q.block (World.block_lt_of_cell? a q hq) hn)).trans hq
/-- the kids of a plain tree in memory of its own -/
def KidsO (ga w : World) (ks : List PN) (ka : Option Addr) (kc : Nat) (F : Nat → Prop) : Prop :=
  (ks = [] ∧ kc = 0) ∨ ∃ (b : Nat) (cur : Array Value) (G : Nat → Nat → Prop), ka = some ⟨b, 0, none⟩ ∧ w.heap[b]? = some (.cells cur 30 (0, 0)) ∧ ks.length ≤ kc ∧ kc ≤ maxLen ∧ cur.size = kc * 4 ∧
    (∀ (j : Nat) (k : PN), ks[j]? = some k → OwnN ga w k (four cur j) (G j)) ∧ F b ∧ (∀ j x, j < ks.length → G j x → F x ∧ x ≠ b) ∧ (∀ i j x, i < ks.length → j < ks.length → i ≠ j → G i x → ¬ G j x)
theorem OwnN.open {ga w : World} {n : PN} {v : Value} {F : Nat → Prop} (h : OwnN ga w n v F) : ∃ av ka kc, v = .agg #[.int .i64 n.tag, av, .string n.text, .slice ka n.kids.length kc] ∧ RowRd ga 2 av n.attrs.length (attrCells n.attrs) ∧ KidsO ga w n.kids ka kc F := by
  cases h with
  | leaf n av kv F ha h0 hk =>
    obtain ⟨k, rfl⟩ := hk
    exact ⟨av, k, 0, by rw [h0]; rfl, ha, .inl ⟨h0, rfl⟩⟩
  | node n av b cap cur F G ha hb hl hm hs hk hFb hG hd =>
    exact ⟨av, _, cap, rfl, ha, .inr ⟨b, cur, G, rfl, hb, hl, hm, hs, hk, hFb, hG, hd⟩⟩
theorem OwnN.shut {ga w : World} {n : PN} {av : Value} {ka : Option Addr} {kc : Nat} {F : Nat → Prop} (ha : RowRd ga 2 av n.attrs.length (attrCells n.attrs)) (h : KidsO ga w n.kids ka kc F) : OwnN ga w n (.agg #[.int .i64 n.tag, av, .string n.text, .slice ka n.kids.length kc]) F := by
  rcases h with ⟨h0, rfl⟩ | ⟨b, cur, G, rfl, hb, hl, hm, hs, hk, hFb, hG, hd⟩
  · exact .leaf n av _ F ha h0 ⟨ka, by rw [h0]; rfl⟩
  · exact .node n av b kc cur F G ha hb hl hm hs hk hFb hG hd
theorem KidsO.cap {ga w : World} {ks : List PN} {ka : Option Addr} {kc : Nat} {F : Nat → Prop} (h : KidsO ga w ks ka kc F) : ks.length ≤ kc ∧ kc ≤ maxLen := by
  rcases h with ⟨rfl, rfl⟩ | ⟨b, cur, G, rfl, hb, hl, hm, _⟩
  · exact ⟨Nat.le_refl _, Nat.zero_le _⟩
  · exact ⟨hl, hm⟩
theorem KidsO.keep {ga w w' : World} {ks : List PN} {ka : Option Addr} {kc : Nat} {F : Nat → Prop} (h : KidsO ga w ks ka kc F) (k : ∀ b o, F b → w.heap[b]? = some o → w'.heap[b]? = some o) : KidsO ga w' ks ka kc F := by
  rcases h with h | ⟨b, cur, G, h1, hb, hl, hm, hs, hk, hFb, hG, hd⟩
  · exact .inl h
  · exact .inr ⟨b, cur, G, h1, k b _ hFb hb, hl, hm, hs, fun j x hx => (hk j x hx).keep fun b o hb => k b o (hG j b (List.getElem?_eq_some_iff.1 hx).1 hb).1, hFb, hG, hd⟩
/-- k kids are written anew -/
def ksAt (l : List PN) (k : Nat) : List PN := (l.take k).map PN.anew ++ l.drop k
theorem ksAt_len (l : List PN) (k : Nat) : (ksAt l k).length = l.length := by
  unfold ksAt; simp; omega
theorem ksAt_zero (l : List PN) : ksAt l 0 = l := rfl
theorem ksAt_all (l : List PN) : ksAt l l.length = l.map PN.anew := by unfold ksAt; simp
theorem ksAt_get (l : List PN) (k j : Nat) : (ksAt l k)[j]? = (l[j]?).map fun x => if j < k then x.anew else x := by
  unfold ksAt
  by_cases h : j < k
  · by_cases h2 : j < l.length
    · rw [List.getElem?_append_left (by simp; omega), List.getElem?_map, List.getElem?_take_of_lt h]
      cases l[j]? <;> simp [h]
    · rw [List.getElem?_append_right (by simp; omega), List.getElem?_drop, List.getElem?_eq_none (by simp; omega), List.getElem?_eq_none (by omega)]; rfl
  · by_cases h2 : k ≤ l.length
    · rw [List.getElem?_append_right (by simp; omega), List.getElem?_drop]
      have e : k + (j - (List.map PN.anew (List.take k l)).length) = j := by simp; omega
      rw [e]
      cases l[j]? <;> simp [h]
    · rw [List.getElem?_append_right (by simp; omega), List.getElem?_drop, List.getElem?_eq_none (by simp; omega), List.getElem?_eq_none (by omega)]; rfl
theorem four_set {cur : Array Value} {cap k : Nat} (hs : cur.size = cap * 4) (hk : k < cap) (z0 z1 z2 z3 : Value) : 
    ((((cur.setIfInBounds (k * 4) z0).setIfInBounds (k * 4 + 1) z1).setIfInBounds (k * 4 + 2) z2).setIfInBounds (k * 4 + 3) z3).size = cap * 4 ∧
    four ((((cur.setIfInBounds (k * 4) z0).setIfInBounds (k * 4 + 1) z1).setIfInBounds (k * 4 + 2) z2).setIfInBounds (k * 4 + 3) z3) k = .agg #[z0, z1, z2, z3] ∧
    ∀ j, j ≠ k → four ((((cur.setIfInBounds (k * 4) z0).setIfInBounds (k * 4 + 1) z1).setIfInBounds (k * 4 + 2) z2).setIfInBounds (k * 4 + 3) z3) j = four cur j := by
  refine ⟨by simpa using hs, ?_, fun j hj => ?_⟩
  · unfold four
    have h0 : k * 4 < cur.size := by omega
    have h1 : k * 4 + 1 < cur.size := by omega
    have h2 : k * 4 + 2 < cur.size := by omega
    have h3 : k * 4 + 3 < cur.size := by omega
    simp [Array.getElem?_setIfInBounds, h0, h1, h2, h3]
  · unfold four
    simp only [Array.getElem?_setIfInBounds]
    have a0 : ∀ m, m < 4 → k * 4 + m ≠ j * 4 ∧ k * 4 + m ≠ j * 4 + 1 ∧ k * 4 + m ≠ j * 4 + 2 ∧ k * 4 + m ≠ j * 4 + 3 := fun m hm => by omega
    have e0 := a0 0 (by omega)
    have e1 := a0 1 (by omega)
    have e2 := a0 2 (by omega)
    have e3 := a0 3 (by omega)
    simp only [Nat.add_zero] at e0
    simp [e0, e1, e2, e3]
/-- four cells are written -/
def put4 (w : World) (b o : Nat) (z0 z1 z2 z3 : Value) : World := (((w.setCell ⟨b, o, none⟩ z0).setCell ⟨b, o + 1, none⟩ z1).setCell ⟨b, o + 2, none⟩ z2).setCell ⟨b, o + 3, none⟩ z3
theorem put4_same {w : World} {b o : Nat} {cs : Array Value} {t : TypeId} {fr : Nat × Nat} (h : w.heap[b]? = some (.cells cs t fr)) (z0 z1 z2 z3 : Value) :
    (put4 w b o z0 z1 z2 z3).heap[b]? = some (.cells ((((cs.setIfInBounds o z0).setIfInBounds (o + 1) z1).setIfInBounds (o + 2) z2).setIfInBounds (o + 3) z3) t fr) :=
  heap_setCell_same (heap_setCell_same (heap_setCell_same (heap_setCell_same h _) _) _) _
theorem put4_other {w : World} {b o y : Nat} (h : y ≠ b) (z0 z1 z2 z3 : Value) : (put4 w b o z0 z1 z2 z3).heap[y]? = w.heap[y]? := by
  unfold put4
  rw [heap_setCell_other (p := ⟨b, o + 3, none⟩) _ h, heap_setCell_other (p := ⟨b, o + 2, none⟩) _ h, heap_setCell_other (p := ⟨b, o + 1, none⟩) _ h, heap_setCell_other (p := ⟨b, o, none⟩) _ h]
theorem KidsO.step {ga wr wk : World} {l : List PN} {b kc k : Nat} {cur : Array Value} {F : Nat → Prop} {G : Nat → Nat → Prop} {x : PN} {z0 z1 z2 z3 : Value}
    (hb : wr.heap[b]? = some (.cells cur 30 (0, 0))) (hl : l.length ≤ kc) (hm : kc ≤ maxLen) (hs : cur.size = kc * 4)
    (hk : ∀ (j : Nat) (y : PN), (ksAt l k)[j]? = some y → OwnN ga wr y (four cur j) (G j)) (hFb : F b) (hG : ∀ j y, j < l.length → G j y → F y ∧ y ≠ b) (hd : ∀ i j y, i < l.length → j < l.length → i ≠ j → G i y → ¬ G j y)
    (hx : l[k]? = some x) (ho : OwnN ga wk x.anew (.agg #[z0, z1, z2, z3]) (G k)) (hc : Chg (G k) wr wk) :
    KidsO ga (put4 wk b (k * 4) z0 z1 z2 z3) (ksAt l (k + 1)) (some ⟨b, 0, none⟩) kc F ∧ Chg F wr (put4 wk b (k * 4) z0 z1 z2 z3) := by
  have hkl := (List.getElem?_eq_some_iff.1 hx).1
  have hbk : wk.heap[b]? = some (.cells cur 30 (0, 0)) := hc.block hb fun h => (hG k b hkl h).2 rfl
  obtain ⟨f1, f2, f3⟩ := four_set hs (show k < kc by omega) z0 z1 z2 z3
  refine ⟨.inr ⟨b, _, G, rfl, put4_same hbk _ _ _ _, by rw [ksAt_len]; exact hl, hm, f1, fun j y hy => ?_, hFb, fun j y hj => hG j y (by rw [ksAt_len] at hj; exact hj), fun i j y hi hj => hd i j y (by rw [ksAt_len] at hi; exact hi) (by rw [ksAt_len] at hj; exact hj)⟩, ?_⟩
  · have hjl : j < l.length := by have := (List.getElem?_eq_some_iff.1 hy).1; rw [ksAt_len] at this; exact this
    rw [ksAt_get] at hy
    by_cases e : j = k
    · subst e
      rw [hx] at hy
      simp at hy
      subst hy
      rw [f2]
      exact ho.keep fun y o hy hw => by rw [put4_other (hG _ y hkl hy).2]; exact hw
    · rw [f3 j e]
      refine (hk j y ?_).keep fun q o hq hw => ?_
      · rw [ksAt_get]
        cases hlj : l[j]? with
        | none => rw [hlj] at hy; cases hy
        | some u =>
          rw [hlj] at hy
          simp at hy ⊢
          by_cases h : j < k
          · rw [if_pos h]; rw [if_pos (by omega)] at hy; exact hy
          · rw [if_neg h]; rw [if_neg (by omega)] at hy; exact hy
      · rw [put4_other (hG j q hjl hq).2]
        exact hc.block hw fun h => hd j k q hjl hkl e hq h
  · have h1 : Chg F wr wk := hc.wide fun y hy => (hG k y hkl hy).1
    exact (((h1.set (p := ⟨b, k * 4, none⟩) (fun _ => hFb) _).set (p := ⟨b, k * 4 + 1, none⟩) (fun _ => hFb) _).set (p := ⟨b, k * 4 + 2, none⟩) (fun _ => hFb) _).set (p := ⟨b, k * 4 + 3, none⟩) (fun _ => hFb) _
/-- what was written anew -/
def TurnIs (n : PN) (ga : World) (F : Nat → Prop) (w : World) (e : Ending) (w' : World) : Prop := ∃ v, e = .returned v ∧ OwnN ga w' n.anew v F ∧ Chg F w w'
set_option maxRecDepth 100000 in
set_option maxHeartbeats 4000000 in
theorem turn_any : ∀ n : PN, n.short = true → n.size ≤ 100000 → ∀ (ga w : World) (v : Value) (F : Nat → Prop), OwnN ga w n v F → (∀ x, F x → x < w.heap.size) → Calls Try.prog 96 #[v] w (TurnIs n ga F w) := by
  refine PN.induct _ fun n ih hsh hsz ga w v F h hF => ?_
  have hnl := n.len_size
  have HSZN := Lib.hid hsz
  rw [PN.short_eq] at hsh
  simp only [Bool.and_eq_true, decide_eq_true_eq] at hsh
  obtain ⟨⟨htx, hal⟩, hshk⟩ := hsh
  have HSH := Lib.hid hshk
  obtain ⟨av, ka, kc, rfl, hA, hK⟩ := h.open
  obtain ⟨aa, acap, rfl, _⟩ := hA.len_of
  obtain ⟨hkc, hkm⟩ := hK.cap
  unfold maxLen at hkm
  have IH := Lib.hid ih
  have xm := ((Ext.refl w).alloc (.cells #[.int .i64 n.tag, .slice aa n.attrs.length acap, .string n.text, .slice ka n.kids.length kc] 30)).alloc (.cells #[.int .i64 0, .slice none 0 0, .string ⟨#[]⟩, .slice none 0 0] 30)
  have b1 := ((Ext.refl (w.alloc (.cells #[.int .i64 n.tag, .slice aa n.attrs.length acap, .string n.text, .slice ka n.kids.length kc] 30))).alloc (.cells #[.int .i64 0, .slice none 0 0, .string ⟨#[]⟩, .slice none 0 0] 30)).block (heap_alloc_new w (.cells #[.int .i64 n.tag, .slice aa n.attrs.length acap, .string n.text, .slice ka n.kids.length kc] 30))
  have b2 := heap_alloc_new (w.alloc (.cells #[.int .i64 n.tag, .slice aa n.attrs.length acap, .string n.text, .slice ka n.kids.length kc] 30)) (.cells #[.int .i64 0, .slice none 0 0, .string ⟨#[]⟩, .slice none 0 0] 30)
  replace hnl : n.kids.length ≤ 100000 := by omega
  rw [show (w.alloc (.cells #[.int .i64 n.tag, .slice aa n.attrs.length acap, .string n.text, .slice ka n.kids.length kc] 30)).heap.size = w.heap.size + 1 by simp] at b2
  have HA := Lib.hid hA
  have HK := Lib.hid hK
  have HF := Lib.hid hF
  clear ih hsz hshk h hA hK hF hal
  go_enter Try.func96, Try.ntmps96
  go_upto_region 1 with fail
  obtain ⟨w1, hw1⟩ : ∃ w1 : World, w1 = (w.alloc (.cells #[.int .i64 n.tag, .slice aa n.attrs.length acap, .string n.text, .slice ka n.kids.length kc] 30)).alloc (.cells #[.int .i64 0, .slice none 0 0, .string ⟨#[]⟩, .slice none 0 0] 30) := ⟨_, rfl⟩
  rw [← hw1] at xm b1 b2 ⊢
  clear hw1
  have c2 := cellOf b1 (i := 2) (v := .string n.text) rfl
  have B1 := Lib.hid b1
  have B2 := Lib.hid b2
  have XM := Lib.hid xm
  clear b1 b2 xm
  go_wp2_with fail
  refine (Anew_any n.text htx _).mono ?_
  clear c2
  rintro e wA ⟨rfl, hxa⟩
  have b1 := hxa.block B1.out
  have b2 := hxa.block B2.out
  have f2 := freeOf b1 2
  have c2 := cellOf b1 (i := 2) (v := .string n.text) rfl
  have HXA := Lib.hid (XM.out.trans hxa)
  have B1A := Lib.hid b1
  have B2A := Lib.hid b2
  clear b1 b2 hxa B1 B2
  go_upto_region 2 with fail
  have e1 := heap_setCell_same (i := 2) B1A.out (.string (anewB n.text))
  have e2 : (wA.setCell ⟨w.heap.size, 2, none⟩ (.string (anewB n.text))).heap[w.heap.size + 1]? = _ := (heap_setCell_other (p := ⟨w.heap.size, 2, none⟩) (.string (anewB n.text)) (show w.heap.size + 1 ≠ w.heap.size by omega)).trans B2A.out
  have ew : Ext w (wA.setCell ⟨w.heap.size, 2, none⟩ (.string (anewB n.text))) := HXA.out.setCell (Nat.le_refl _) _
  obtain ⟨ws, hws⟩ : ∃ ws : World, ws = wA.setCell ⟨w.heap.size, 2, none⟩ (.string (anewB n.text)) := ⟨_, rfl⟩
  rw [← hws] at e1 e2 ew ⊢
  clear hws c2 f2 B1A B2A
  have E1 := Lib.hid (show ws.heap[w.heap.size]? = some (.cells #[.int .i64 n.tag, .slice aa n.attrs.length acap, .string (anewB n.text), .slice ka n.kids.length kc] 30 (0, 0)) from e1)
  have E2 := Lib.hid e2
  have EW := Lib.hid ew
  have hks : KidsO ga ws (ksAt n.kids 0) ka kc F := HK.out.keep fun b o _ hb => ew.block hb
  have HKS := Lib.hid hks
  have hnb : ¬ F w.heap.size := fun h => Nat.lt_irrefl _ (HF.out _ h)
  have hnb2 : ¬ F (w.heap.size + 1) := fun h => by have := HF.out _ h; omega
  have HNB := Lib.hid hnb
  have HNB2 := Lib.hid hnb2
  clear e1 e2 ew hks hnb hnb2 HXA XM
  go_wp2_with fail
  go_loopw [3] (fun i wr => ∃ k : Nat, k ≤ n.kids.length ∧ i = .int .i64 k ∧ KidsO ga wr (ksAt n.kids k) ka kc F ∧ Chg F ws wr) (fun i _ => n.kids.length - (intOf i).toNat)
  case atStart => exact ⟨0, Nat.zero_le _, rfl, HKS.out, Chg.refl _ _⟩
  case round =>
    obtain ⟨k, hk, rfl, hko, hch⟩ := hrel
    clear HKS
    have hb := hch.block E1.out HNB.out
    have c3 := cellOf hb (i := 3) (v := .slice ka n.kids.length kc) rfl
    by_cases hlt : k < n.kids.length
    · obtain ⟨x, hxi⟩ : ∃ x, n.kids[k]? = some x := ⟨n.kids[k], by simp [hlt]⟩
      rcases hko with ⟨h0, _⟩ | ⟨b, cur, G, rfl, hbb, hl, hm, hsz, hkk, hFb, hG, hd⟩
      · have := congrArg List.length h0; rw [ksAt_len] at this; simp at this; omega
      · rw [ksAt_len] at hl hG hd
        obtain ⟨z0, z1, z2, z3, e4, q0, q1, q2, q3⟩ := four_at hsz (show k < kc by omega)
        have ho := hkk k x (by rw [ksAt_get, hxi]; simp)
        rw [e4] at ho
        obtain ⟨y1, y2, y3, y4, en⟩ := ho.shape
        cases en
        replace q0 := cellOf hbb q0
        replace q1 := cellOf hbb q1
        replace q2 := cellOf hbb q2
        replace q3 := cellOf hbb q3
        have ho' := ho.keep (w' := wr.drew) fun _ _ _ h => h
        have REC := Lib.hid (IH.out x (List.mem_of_getElem? hxi) (PN.shorts_mem HSH.out (List.mem_of_getElem? hxi)) (by have := PN.size_kid (List.mem_of_getElem? hxi); have := HSZN.out; omega) ga wr.drew _ (G k) ho' fun y hy => Nat.lt_of_lt_of_le (HF.out y (hG k y hlt hy).1) (Nat.le_trans (Ext.size EW.out) hch.size))
        have hnG : ¬ G k w.heap.size := fun h => HNB.out (hG k _ hlt h).1
        have hnb : ¬ G k b := fun h => (hG k b hlt h).2 rfl
        have n1 : w.heap.size ≠ b := fun e => HNB.out (e ▸ hFb)
        have n2 : b ≠ w.heap.size := Ne.symm n1
        have hxd : Chg (G k) wr wr.drew := Chg.ext (Ext.refl wr).drew
        have STEP := Lib.hid fun (wk : World) (v0 v1 v2 v3 : Value) (h1 : OwnN ga wk x.anew (.agg #[v0, v1, v2, v3]) (G k)) (h2 : Chg (G k) wr wk) => KidsO.step hbb hl hm hsz hkk hFb hG hd hxi h1 h2
        have HB := Lib.hid hbb
        have HNG := Lib.hid hnG
        have HNBG := Lib.hid hnb
        have HXD := Lib.hid hxd
        have HCH := Lib.hid hch
        have HCB := Lib.hid c3
        clear ho ho' hkk hbb hnG hnb hxd hch hb hFb hG hd hxi e4
        go_upto_region 5 with fail
        refine wp_region_E (S := fun w' => w'.cell? ⟨w.heap.size, 3, none⟩ = some (.slice (some ⟨b, 0, none⟩) n.kids.length kc) ∧ w'.cell? ⟨b, k * 4, none⟩ = some (.int .i64 x.tag) ∧ w'.cell? ⟨b, k * 4 + 1, none⟩ = some (.slice y1 x.attrs.length y2) ∧ w'.cell? ⟨b, k * 4 + 2, none⟩ = some (.string x.text) ∧ w'.cell? ⟨b, k * 4 + 3, none⟩ = some (.slice y3 x.kids.length y4)) (n := 10) (by kernel_rfl) ?_
        have hS : wr.drew.cell? ⟨w.heap.size, 3, none⟩ = some (.slice (some ⟨b, 0, none⟩) n.kids.length kc) ∧ wr.drew.cell? ⟨b, k * 4, none⟩ = some (.int .i64 x.tag) ∧ wr.drew.cell? ⟨b, k * 4 + 1, none⟩ = some (.slice y1 x.attrs.length y2) ∧ wr.drew.cell? ⟨b, k * 4 + 2, none⟩ = some (.string x.text) ∧ wr.drew.cell? ⟨b, k * 4 + 3, none⟩ = some (.slice y3 x.kids.length y4) := ⟨c3, q0, q1, q2, q3⟩
        show wpE _ _ _ _ _ 10 11 (Array.replicate 11 false) _ _
        refine wpE_take (i := 0) (v := (.pointer (some ⟨w.heap.size, 3, none⟩))) (o := { dst := some 15, op := _, type := _, pos := _, after := _, guard := none }) rfl (by kernel_rfl) (by kernel_rfl) (by kernel_rfl) (by kernel_rfl) (fun _ _ _ h => h) (Or.inl ⟨by rfl, fun w' hSw => ?_⟩) hS ?_
        · (obtain ⟨s1, s2, s3, s4, s5⟩ := hSw; clear hS; go_simp)
        try simp only [Act.put, List.setIfInBounds_toArray, List.set_cons_zero, List.set_cons_succ]
        refine wpE_take (i := 1) (v := (.slice (some ⟨b, 0, none⟩) n.kids.length kc)) (o := { dst := some 16, op := _, type := _, pos := _, after := _, guard := none }) rfl (by kernel_rfl) (by kernel_rfl) (by kernel_rfl) (by kernel_rfl) (fun _ _ _ h => h) (Or.inl ⟨by rfl, fun w' hSw => ?_⟩) hS ?_
        · (obtain ⟨s1, s2, s3, s4, s5⟩ := hSw; clear hS; go_simp)
        try simp only [Act.put, List.setIfInBounds_toArray, List.set_cons_zero, List.set_cons_succ]
        refine wpE_take (i := 2) (v := (.int .i64 k)) (o := { dst := some 17, op := _, type := _, pos := _, after := _, guard := none }) rfl (by kernel_rfl) (by kernel_rfl) (by kernel_rfl) (by kernel_rfl) (fun _ _ _ h => h) (Or.inl ⟨by rfl, fun w' hSw => ?_⟩) hS ?_
        · (obtain ⟨s1, s2, s3, s4, s5⟩ := hSw; clear hS; go_simp)
        try simp only [Act.put, List.setIfInBounds_toArray, List.set_cons_zero, List.set_cons_succ]
        refine wpE_take (i := 3) (v := (.pointer (some ⟨w.heap.size, 3, none⟩))) (o := { dst := some 18, op := _, type := _, pos := _, after := _, guard := none }) rfl (by kernel_rfl) (by kernel_rfl) (by kernel_rfl) (by kernel_rfl) (fun _ _ _ h => h) (Or.inl ⟨by rfl, fun w' hSw => ?_⟩) hS ?_
        · (obtain ⟨s1, s2, s3, s4, s5⟩ := hSw; clear hS; go_simp)
        try simp only [Act.put, List.setIfInBounds_toArray, List.set_cons_zero, List.set_cons_succ]
        refine wpE_take (i := 4) (v := (.slice (some ⟨b, 0, none⟩) n.kids.length kc)) (o := { dst := some 19, op := _, type := _, pos := _, after := _, guard := none }) rfl (by kernel_rfl) (by kernel_rfl) (by kernel_rfl) (by kernel_rfl) (fun _ _ _ h => h) (Or.inl ⟨by rfl, fun w' hSw => ?_⟩) hS ?_
        · (obtain ⟨s1, s2, s3, s4, s5⟩ := hSw; clear hS; go_simp)
        try simp only [Act.put, List.setIfInBounds_toArray, List.set_cons_zero, List.set_cons_succ]
        refine wpE_take (i := 5) (v := (.int .i64 k)) (o := { dst := some 20, op := _, type := _, pos := _, after := _, guard := none }) rfl (by kernel_rfl) (by kernel_rfl) (by kernel_rfl) (by kernel_rfl) (fun _ _ _ h => h) (Or.inl ⟨by rfl, fun w' hSw => ?_⟩) hS ?_
        · (obtain ⟨s1, s2, s3, s4, s5⟩ := hSw; clear hS; go_simp)
        try simp only [Act.put, List.setIfInBounds_toArray, List.set_cons_zero, List.set_cons_succ]
        refine wpE_take (i := 6) (v := (.pointer (some ⟨b, k * 4, none⟩))) (o := { dst := some 21, op := _, type := _, pos := _, after := _, guard := none }) rfl (by kernel_rfl) (by kernel_rfl) (by kernel_rfl) (by kernel_rfl) (fun _ _ _ h => h) (Or.inl ⟨by rfl, fun w' hSw => ?_⟩) hS ?_
        · (obtain ⟨s1, s2, s3, s4, s5⟩ := hSw; clear hS; go_simp)
        try simp only [Act.put, List.setIfInBounds_toArray, List.set_cons_zero, List.set_cons_succ]
        refine wpE_take (i := 7) (v := (.agg #[.int .i64 x.tag, .slice y1 x.attrs.length y2, .string x.text, .slice y3 x.kids.length y4])) (o := { dst := some 22, op := _, type := _, pos := _, after := _, guard := none }) rfl (by kernel_rfl) (by kernel_rfl) (by kernel_rfl) (by kernel_rfl) (fun _ _ _ h => h) (Or.inl ⟨by rfl, fun w' hSw => ?_⟩) hS ?_
        · (obtain ⟨s1, s2, s3, s4, s5⟩ := hSw; clear hS; go_simp)
        try simp only [Act.put, List.setIfInBounds_toArray, List.set_cons_zero, List.set_cons_succ]
        refine wpE_one (i := 8) (o := { dst := some 23, op := _, type := _, pos := _, after := _, guard := none }) (by kernel_rfl) rfl (fun K hK => ?_)
        go_simp
        refine REC.out.mono ?_
        rintro e wk ⟨v', rfl, hov, hcv⟩
        have hcv' := HXD.out.trans hcv
        obtain ⟨p1, p2, p3, p4, ev⟩ := hov.shape
        subst ev
        have hbk := hcv'.block HB.out HNBG.out
        have t3 := hcv'.cell c3 HNG.out
        have t4 := hcv'.cell q0 HNBG.out
        have t5 := hcv'.cell q1 HNBG.out
        have t6 := hcv'.cell q2 HNBG.out
        have t7 := hcv'.cell q3 HNBG.out
        have f0 := freeOf hbk (k * 4)
        have f1 := freeOf hbk (k * 4 + 1)
        have f2 := freeOf hbk (k * 4 + 2)
        have f3 := freeOf hbk (k * 4 + 3)
        have FIN := Lib.hid (STEP.out wk _ _ _ _ hov hcv')
        clear hov hcv hcv' hbk hS
        refine hK.out _ _ (.inr ⟨t3, t4, t5, t6, t7⟩) ?_
        clear hK K
        try simp only [Act.put, List.setIfInBounds_toArray, List.set_cons_zero, List.set_cons_succ]
        refine wpE_one (i := 9) (o := { dst := some 24, op := _, type := _, pos := _, after := _, guard := none }) (by kernel_rfl) rfl (fun K hK => ?_)
        go_simp
        refine hK.out _ _ (.inr ⟨t3, t4, t5, t6, t7⟩) ?_
        clear hK K
        try simp only [Act.put, List.setIfInBounds_toArray, List.set_cons_zero, List.set_cons_succ]
        refine wpE_one (i := 10) (o := { dst := none, op := _, type := _, pos := _, after := _, guard := none }) (by kernel_rfl) rfl (fun K hK => ?_)
        go_simp
        refine hK.out _ _ (.inl rfl) ?_
        clear hK K
        refine wpE_done (by kernel_rfl) ?_
        go_wp2_with fail
        go_roundw
        case rel => exact ⟨k + 1, by omega, by go_num, FIN.out.1, HCH.out.trans FIN.out.2⟩
        case measure => simp [intOf]; omega
    · obtain rfl : k = n.kids.length := by omega
      have hb2 := hch.block E2.out HNB2.out
      have c0 := cellOf hb (i := 0) (v := .int .i64 n.tag) rfl
      have c1 := cellOf hb (i := 1) (v := .slice aa n.attrs.length acap) rfl
      have c2 := cellOf hb (i := 2) (v := .string (anewB n.text)) rfl
      have r0 := cellOf hb2 (i := 0) (v := .int .i64 0) rfl
      have r1 := cellOf hb2 (i := 1) (v := .slice none 0 0) rfl
      have r2 := cellOf hb2 (i := 2) (v := .string ⟨#[]⟩) rfl
      have r3 := cellOf hb2 (i := 3) (v := .slice none 0 0) rfl
      have g0 := freeOf hb2 0
      have g1 := freeOf hb2 1
      have g2 := freeOf hb2 2
      have g3 := freeOf hb2 3
      have FIN := Lib.hid (fun (z0 z1 z2 z3 : Value) => show TurnIs n ga F w (.returned (.agg #[.int .i64 n.tag, .slice aa n.attrs.length acap, .string (anewB n.text), .slice ka n.kids.length kc])) (put4 wr (w.heap.size + 1) 0 z0 z1 z2 z3) from by
        have hk2 : KidsO ga (put4 wr (w.heap.size + 1) 0 z0 z1 z2 z3) (ksAt n.kids n.kids.length) ka kc F := hko.keep fun y o hy hw => by
          have hne : y ≠ w.heap.size + 1 := fun e => HNB2.out (by rw [← e]; exact hy)
          rw [put4_other hne]; exact hw
        rw [ksAt_all, ← PN.anews_eq] at hk2
        have e := n.anew_eq
        refine ⟨_, rfl, ?_, ?_⟩
        · rw [e]
          have hl : n.kids.length = (PN.anews n.kids).length := by rw [PN.anews_eq]; simp
          rw [hl]
          exact OwnN.shut (n := .mk n.tag n.attrs (anewB n.text) (PN.anews n.kids)) HA.out hk2
        · have h0 : Chg F w wr := (Chg.ext EW.out).trans hch
          have hv : w.heap.size + 1 < w.heap.size → F (w.heap.size + 1) := fun h => by omega
          exact (((h0.set (p := ⟨w.heap.size + 1, 0, none⟩) hv _).set (p := ⟨w.heap.size + 1, 0 + 1, none⟩) hv _).set (p := ⟨w.heap.size + 1, 0 + 2, none⟩) hv _).set (p := ⟨w.heap.size + 1, 0 + 3, none⟩) hv _)
      clear hko hch hb hb2
      go_wp2_with fail
      exact bodyPost_ret (v := .agg #[.int .i64 n.tag, .slice aa n.attrs.length acap, .string (anewB n.text), .slice ka n.kids.length kc]) (by simp [results, Try.results96, go_sem, r0, r1, r2, r3]) rfl (FIN.out _ _ _ _)
/-- what changed in blocks that came since, came -/
theorem Chg.toExt {F : Nat → Prop} {a b c : World} (h : Chg F b c) (k : Ext a b) (hF : ∀ x, F x → a.heap.size ≤ x) : Ext a c :=
  ⟨h.os.trans k.os, h.tape.trans k.tape, h.output.trans k.output, Nat.le_trans k.size h.size, fun x hx => (h.rest x (Nat.lt_of_lt_of_le hx k.size) (fun hf => by have := hF x hf; omega)).trans (Below.block k x hx)⟩
theorem put4_ext {a w : World} (h : Ext a w) {b : Nat} (hb : a.heap.size ≤ b) (o : Nat) (z0 z1 z2 z3 : Value) : Ext a (put4 w b o z0 z1 z2 z3) :=
  (((h.setCell (p := ⟨b, o, none⟩) hb _).setCell (p := ⟨b, o + 1, none⟩) hb _).setCell (p := ⟨b, o + 2, none⟩) hb _).setCell (p := ⟨b, o + 3, none⟩) hb _
theorem put4_size (w : World) (b o : Nat) (z0 z1 z2 z3 : Value) : (put4 w b o z0 z1 z2 z3).heap.size = w.heap.size := by simp [put4, World.setCell]
open Classical in
set_option maxRecDepth 100000 in
set_option maxHeartbeats 2000000 in
theorem AnewNode_any {w0 : World} (n : PN) (hfair : n.fair = true) (hsh : n.short = true) (hsz : n.size ≤ 100000) (w : World) (v : Value) (h : RdN w0 n v) (hx0 : Ext w0 w) : Calls Try.prog 32 #[v] w (PlainIs n.anew w) := by
  obtain ⟨aa, acap, ka, kcap, rfl⟩ := h.shape
  have xm := ((Ext.refl w).alloc (.cells #[.int .i64 n.tag, .slice aa n.attrs.length acap, .string n.text, .slice ka n.kids.length kcap] 30)).alloc (.cells #[.int .i64 0, .slice none 0 0, .string ⟨#[]⟩, .slice none 0 0] 30)
  have b1 := ((Ext.refl (w.alloc (.cells #[.int .i64 n.tag, .slice aa n.attrs.length acap, .string n.text, .slice ka n.kids.length kcap] 30))).alloc (.cells #[.int .i64 0, .slice none 0 0, .string ⟨#[]⟩, .slice none 0 0] 30)).block (heap_alloc_new w (.cells #[.int .i64 n.tag, .slice aa n.attrs.length acap, .string n.text, .slice ka n.kids.length kcap] 30))
  have b2 := heap_alloc_new (w.alloc (.cells #[.int .i64 n.tag, .slice aa n.attrs.length acap, .string n.text, .slice ka n.kids.length kcap] 30)) (.cells #[.int .i64 0, .slice none 0 0, .string ⟨#[]⟩, .slice none 0 0] 30)
  have hs1 : ((w.alloc (.cells #[.int .i64 n.tag, .slice aa n.attrs.length acap, .string n.text, .slice ka n.kids.length kcap] 30)).alloc (.cells #[.int .i64 0, .slice none 0 0, .string ⟨#[]⟩, .slice none 0 0] 30)).heap.size = w.heap.size + 2 := by simp
  rw [show (w.alloc (.cells #[.int .i64 n.tag, .slice aa n.attrs.length acap, .string n.text, .slice ka n.kids.length kcap] 30)).heap.size = w.heap.size + 1 by simp] at b2
  have H := Lib.hid h
  have HX0 := Lib.hid hx0
  clear h hx0
  go_enter Try.func32, Try.ntmps32
  go_upto_region 1 with fail
  obtain ⟨w1, hw1⟩ : ∃ w1 : World, w1 = (w.alloc (.cells #[.int .i64 n.tag, .slice aa n.attrs.length acap, .string n.text, .slice ka n.kids.length kcap] 30)).alloc (.cells #[.int .i64 0, .slice none 0 0, .string ⟨#[]⟩, .slice none 0 0] 30) := ⟨_, rfl⟩
  rw [← hw1] at xm b1 b2 hs1 ⊢
  clear hw1
  have c0 := cellOf b1 (i := 0) (v := .int .i64 n.tag) rfl
  have c1 := cellOf b1 (i := 1) (v := .slice aa n.attrs.length acap) rfl
  have c2 := cellOf b1 (i := 2) (v := .string n.text) rfl
  have c3 := cellOf b1 (i := 3) (v := .slice ka n.kids.length kcap) rfl
  have B1 := Lib.hid b1
  have B2 := Lib.hid b2
  have XM := Lib.hid xm
  clear b1 b2 xm
  go_wp2_with fail
  refine (CopyNode_any n hfair hsz w1 _ H.out (HX0.out.trans XM.out)).mono ?_
  rintro e w2 ⟨v2, F, ga, rfl, ho, hx2, hF, hg⟩
  rw [hs1] at hF hg
  obtain ⟨a2, ac2, k2, kc2, rfl⟩ := ho.shape
  clear c0 c1 c2 c3
  have b1 := hx2.block B1.out
  have b2 := hx2.block B2.out
  have hs2 := hx2.size
  rw [hs1] at hs2
  have c0 := cellOf b1 (i := 0) (v := .int .i64 n.tag) rfl
  have c1 := cellOf b1 (i := 1) (v := .slice aa n.attrs.length acap) rfl
  have c2 := cellOf b1 (i := 2) (v := .string n.text) rfl
  have c3 := cellOf b1 (i := 3) (v := .slice ka n.kids.length kcap) rfl
  have f0 := freeOf b1 0
  have f1 := freeOf b1 1
  have f2 := freeOf b1 2
  have f3 := freeOf b1 3
  have b1' := put4_same (o := 0) b1 (.int .i64 n.tag) (.slice a2 n.attrs.length ac2) (.string n.text) (.slice k2 n.kids.length kc2)
  have b2' := (put4_other (o := 0) (show w.heap.size + 1 ≠ w.heap.size by omega) (.int .i64 n.tag) (.slice a2 n.attrs.length ac2) (.string n.text) (.slice k2 n.kids.length kc2)).trans b2
  have x2' := put4_ext (XM.out.trans hx2) (Nat.le_refl w.heap.size) 0 (.int .i64 n.tag) (.slice a2 n.attrs.length ac2) (.string n.text) (.slice k2 n.kids.length kc2)
  have ho' : OwnN ga (put4 w2 w.heap.size 0 (.int .i64 n.tag) (.slice a2 n.attrs.length ac2) (.string n.text) (.slice k2 n.kids.length kc2)) n (.agg #[.int .i64 n.tag, .slice a2 n.attrs.length ac2, .string n.text, .slice k2 n.kids.length kc2]) F := ho.keep fun y o hy hw => by
    rw [put4_other (by have := hF y hy; omega)]; exact hw
  have hs2' : (put4 w2 w.heap.size 0 (.int .i64 n.tag) (.slice a2 n.attrs.length ac2) (.string n.text) (.slice k2 n.kids.length kc2)).heap.size = w2.heap.size := put4_size ..
  have hg' : ∀ q y, ga.cell? q = some y → (put4 w2 w.heap.size 0 (.int .i64 n.tag) (.slice a2 n.attrs.length ac2) (.string n.text) (.slice k2 n.kids.length kc2)).cell? q = some y ∧ w.heap.size + 2 ≤ q.block ∧ ¬ F q.block := fun q y hq => by
    obtain ⟨q1, q2, q3⟩ := hg q y hq
    exact ⟨(World.cell?_of_block (put4_other (by omega) _ _ _ _)).trans q1, q2, q3⟩
  have HF := Lib.hid hF
  clear ho b1 b2 hx2 hF hg B1 B2
  go_upto_region 2 with fail
  obtain ⟨w3, hw3⟩ : ∃ w3 : World, w3 = put4 w2 w.heap.size 0 (.int .i64 n.tag) (.slice a2 n.attrs.length ac2) (.string n.text) (.slice k2 n.kids.length kc2) := ⟨_, rfl⟩
  have hw3' := hw3
  unfold put4 at hw3'
  simp only [Nat.zero_add] at hw3'
  rw [← hw3] at b1' b2' x2' ho' hs2' hg'
  rw [← hw3']
  clear hw3 hw3' c0 c1 c2 c3 f0 f1 f2 f3
  have c0 := cellOf b1' (i := 0) (v := .int .i64 n.tag) rfl
  have c1 := cellOf b1' (i := 1) (v := .slice a2 n.attrs.length ac2) rfl
  have c2 := cellOf b1' (i := 2) (v := .string n.text) rfl
  have c3 := cellOf b1' (i := 3) (v := .slice k2 n.kids.length kc2) rfl
  have HO := Lib.hid ho'
  have HB2 := Lib.hid b2'
  have HX2 := Lib.hid x2'
  have HG := Lib.hid hg'
  clear ho' b1' b2' x2' hg'
  go_wp2_with fail
  refine (turn_any n hsh hsz ga w3 _ F HO.out fun y hy => by have := HF.out y hy; omega).mono ?_
  rintro e w4 ⟨v4, rfl, ho4, hc4⟩
  obtain ⟨a4, ac4, k4, kc4, rfl⟩ := ho4.shape
  clear c0 c1 c2 c3
  have hnF : ¬ F (w.heap.size + 1) := fun h => by have := HF.out _ h; omega
  have b2 := hc4.block HB2.out hnF
  have r0 := cellOf b2 (i := 0) (v := .int .i64 0) rfl
  have r1 := cellOf b2 (i := 1) (v := .slice none 0 0) rfl
  have r2 := cellOf b2 (i := 2) (v := .string ⟨#[]⟩) rfl
  have r3 := cellOf b2 (i := 3) (v := .slice none 0 0) rfl
  have g0 := freeOf b2 0
  have g1 := freeOf b2 1
  have g2 := freeOf b2 2
  have g3 := freeOf b2 3
  have FIN := Lib.hid (fun (z0 z1 z2 z3 : Value) => show PlainIs n.anew w (.returned (.agg #[.int .i64 n.anew.tag, .slice a4 n.anew.attrs.length ac4, .string n.anew.text, .slice k4 n.anew.kids.length kc4])) (put4 w4 (w.heap.size + 1) 0 z0 z1 z2 z3) from by
    let ow : Ow := fun y => if w.heap.size + 2 ≤ y then none else some (0, 0)
    have new : ∀ q y, w4.cell? q = some y → w.heap.size + 2 ≤ q.block → (hide ow (put4 w4 (w.heap.size + 1) 0 z0 z1 z2 z3)).cell? q = some y := fun q y hq hl =>
      hide_cell ((World.cell?_of_block (put4_other (by omega) _ _ _ _)).trans hq) (if_pos hl)
    refine ⟨_, hide ow (put4 w4 (w.heap.size + 1) 0 z0 z1 z2 z3), rfl, ho4.rd (B := w.heap.size + 2) (fun q y hq => ?_) new (fun y hy => (HF.out y hy).1), put4_ext (hc4.toExt HX2.out fun y hy => by have := HF.out y hy; omega) (Nat.le_succ _) _ _ _ _ _, fun q y hq => ?_⟩
    · obtain ⟨q1, q2, q3⟩ := HG.out q y hq
      exact new q y (hc4.cell q1 q3) q2
    · obtain ⟨h1, h2⟩ := hide_apart _ _ q y hq
      refine ⟨h1, ?_⟩
      by_cases hl : w.heap.size + 2 ≤ q.block
      · omega
      · have h3 : (if w.heap.size + 2 ≤ q.block then none else some (0, 0)) = (none : Option (Nat × Nat)) := h2
        rw [if_neg hl] at h3; cases h3)
  clear b2 ho4 hc4 hnF
  go_wp2_with fail
  exact bodyPost_ret (v := .agg #[.int .i64 n.anew.tag, .slice a4 n.anew.attrs.length ac4, .string n.anew.text, .slice k4 n.anew.kids.length kc4]) (by simp [results, Try.results32, go_sem, r0, r1, r2, r3]) rfl (FIN.out _ _ _ _)
set_option maxRecDepth 100000 in
set_option maxHeartbeats 2000000 in
theorem Size_any {w0 : World} : ∀ (n : PN) (nv : Value) (w : World), n.size ≤ 100000 → RdN w0 n nv → Ext w0 w → Calls Try.prog 33 #[nv] w (RVal (.int .i64 n.size) w) := by
  refine PN.induct _ fun n ih nv w hsz hr hx => ?_
  have hnl := n.len_size
  have hse := n.size_eq
  obtain ⟨av, kv, rfl, ha, hk⟩ := hr.open
  obtain ⟨aa, acap, rfl, hac⟩ := ha.len_of
  obtain ⟨ka, kcap, rfl, hkc, hkm, hkn, hkr⟩ := hk
  have x1 := (Ext.refl w).alloc (.cells #[.int .i64 n.tag, .slice aa n.attrs.length acap, .string n.text, .slice ka n.kids.length kcap] 30)
  have hbox := heap_alloc_new w (.cells #[.int .i64 n.tag, .slice aa n.attrs.length acap, .string n.text, .slice ka n.kids.length kcap] 30)
  have HKR := Lib.hid hkr
  have HKN := Lib.hid hkn
  have HX := Lib.hid hx
  have HX1 := Lib.hid x1
  have IH := Lib.hid ih
  unfold maxLen at hkm
  clear hkr hkn hx ih hr ha x1
  have HSE := Lib.hid hse
  have HSZ := Lib.hid hsz
  replace hnl : n.kids.length ≤ 100000 := by omega
  clear hse hsz
  go_enter Try.func33, Try.ntmps33
  go_upto_region 1 with fail
  obtain ⟨wb, hwb⟩ : ∃ wb : World, wb = w.alloc (.cells #[.int .i64 n.tag, .slice aa n.attrs.length acap, .string n.text, .slice ka n.kids.length kcap] 30) := ⟨_, rfl⟩
  rw [← hwb] at hbox HX1 ⊢
  clear hwb
  have k3 := cellOf hbox (i := 3) (v := .slice ka n.kids.length kcap) rfl
  clear hbox
  go_wp2_with fail
  go_loopw [3, 4] (fun c i wr => ∃ k : Nat, k ≤ n.kids.length ∧ i = .int .i64 k ∧ c = .int .i64 ((1 + PN.sizes (n.kids.take k) : Nat) : Int) ∧ Ext wb wr) (fun _ i _ => n.kids.length - (intOf i).toNat)
  case atStart => exact ⟨0, Nat.zero_le _, rfl, by simp [PN.sizes], Ext.refl _⟩
  case round =>
    obtain ⟨k, hk, rfl, rfl, xr⟩ := hrel
    have HXR := Lib.hid xr
    replace k3 := xr.cell k3
    clear xr
    by_cases hkk : k < n.kids.length
    · obtain ⟨x, hx⟩ : ∃ x, n.kids[k]? = some x := ⟨n.kids[k], by simp [hkk]⟩
      cases ka with
      | none => exact absurd (HKN.out rfl).1 (by omega)
      | some a =>
        obtain ⟨b, off, sp⟩ := a
        obtain ⟨c0', c1', c2', c3', q0, q1, q2, q3, hrd⟩ := HKR.out _ rfl k x hx
        have hxx : Ext w0 wr := (HX.out.trans HX1.out).trans HXR.out
        replace q0 := hxx.cells _ _ q0
        replace q1 := hxx.cells _ _ q1
        replace q2 := hxx.cells _ _ q2
        replace q3 := hxx.cells _ _ q3
        rw [add_later _ _ _ (by decide)] at q1 q2 q3
        have htk := sizes_take_succ hx
        have hle := sizes_take n.kids (k + 1)
        have htk2 : PN.sizes (n.kids.take (k + 1)) = PN.sizes (n.kids.take k) + x.size := by
          obtain ⟨hlt', hxe⟩ := List.getElem?_eq_some_iff.1 hx
          rw [List.take_succ_eq_append_getElem hlt', hxe, sizes_append]; simp [PN.sizes]
        have h1 := HSE.out
        have h2 := HSZ.out
        have hrec := IH.out x (List.mem_of_getElem? hx) _ wr (by omega) hrd hxx
        have hb1 : 1 + PN.sizes (n.kids.take k) ≤ 100000 := by omega
        have hb2 : x.size ≤ 100000 := by omega
        have HREC := Lib.hid hrec
        have HTK := Lib.hid htk2
        clear hx hrd hrec hxx htk hle htk2 h1 h2
        generalize hs : 1 + PN.sizes (n.kids.take k) = S at *
        have HS := Lib.hid hs
        clear hs
        go_wp2_with fail
        refine HREC.out.mono ?_
        rintro e w' ⟨rfl, p4⟩
        generalize hs2 : x.size = X at *
        have HS2 := Lib.hid hs2
        clear hs2
        go_wp2_with fail
        go_roundw
        case rel => exact ⟨k + 1, by omega, by go_num, by rw [HTK.out, ← Nat.add_assoc, HS.out]; push_cast; rfl, HXR.out.trans p4⟩
        case measure => simp [intOf]; omega
    · obtain rfl : k = n.kids.length := by omega
      generalize hs : 1 + PN.sizes (n.kids.take n.kids.length) = S at *
      have HS := Lib.hid hs
      clear hs
      go_wp2_with fail
      go_ret
      refine ⟨?_, HX1.out.trans HXR.out⟩
      have e : 1 + PN.sizes (n.kids.take n.kids.length) = n.size := by rw [List.take_length]; have := HSE.out; omega
      rw [← HS.out, e]
      rfl
end Go.Proofs.Ytiglflmjidikpaa
