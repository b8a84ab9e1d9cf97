/- what of ZP Z1 Z2 Z3 BA BB BC BD BE BF BG BH BI BJ BK BL BM BN BO BP BQ BR NA NC NB ND NE NF BS BT ZY BV BW BY Z4 CA CB CC CD TA TB TC TD TE TF TG TK TH TI is leant on -/
import Derived.Test.YtalaajbajgdglaaGreatDoorLBhe
set_option linter.unusedVariables false
set_option linter.unusedSimpArgs false
set_option maxRecDepth 1000000
set_option maxHeartbeats 8000000
namespace Go.Proofs.YtalaajbajgdglaaGreatDoor
open Go Go.RowKit Go.BigFrame We
theorem tagL_text {N : Nat} {r e : List UInt8} {t : Tk} (h : tagL N r = some (t, e)) : t.text = [] ∧ t.kind ≠ 1 := by
  unfold tagL at h
  by_cases hl0 : headP letterB (tagR r) = true
  · rw [if_pos hl0] at h
    by_cases hcl : closeB r = true
    · rw [if_pos hcl] at h
      unfold closeL at h
      split at h
      · cases h
      · cases h; exact ⟨rfl, (by decide : ¬ (3 : Int) = 1)⟩
    · rw [if_neg hcl] at h
      unfold openL at h
      cases hx : partsL ((tagR r).dropWhile alnumB) with
      | none => rw [hx] at h; cases h
      | some x => rw [hx] at h; cases h; exact ⟨rfl, (by decide : ¬ (2 : Int) = 1)⟩
  · rw [if_neg hl0] at h
    cases h
theorem lexL_small (N : Nat) : ∀ (n : Nat) (r raw : List UInt8) (a b : Nat), r.length ≤ n → (∀ t ∈ lexL N raw a b r, t.text.length ≤ raw.length + r.length) ∧ (lexL N raw a b r).length ≤ r.length + (if raw = [] then 0 else 1) := by
  have hfl : ∀ raw a b, (flushT raw a b).length = (if raw = [] then 0 else 1) ∧ ∀ t ∈ flushT raw a b, t.text.length ≤ raw.length := by
    intro raw a b
    unfold flushT
    split
    · exact ⟨rfl, fun t ht => by cases ht⟩
    · exact ⟨rfl, fun t ht => by rw [List.mem_singleton.1 ht]; exact Nat.le_refl _⟩
  intro n
  induction n with
  | zero =>
    intro r raw a b hn
    obtain rfl : r = [] := List.eq_nil_of_length_eq_zero (by omega)
    rw [lexL_nil]
    exact ⟨fun t ht => Nat.le_trans ((hfl raw a b).2 t ht) (Nat.le_add_right _ _), by rw [(hfl raw a b).1]; omega⟩
  | succ n ih =>
    intro r raw a b hn
    cases r with
    | nil =>
      rw [lexL_nil]
      exact ⟨fun t ht => Nat.le_trans ((hfl raw a b).2 t ht) (Nat.le_add_right _ _), by rw [(hfl raw a b).1]; omega⟩
    | cons c q =>
      simp only [List.length_cons] at hn
      have hch : (c ≠ 60 ∨ noteL (c :: q) = none ∧ tagL N (c :: q) = none) → (∀ t ∈ lexL N raw a b (c :: q), t.text.length ≤ raw.length + (c :: q).length) ∧ (lexL N raw a b (c :: q)).length ≤ (c :: q).length + (if raw = [] then 0 else 1) := by
        intro h
        rw [lexL_char h]
        obtain ⟨i1, i2⟩ := ih q (raw ++ [c]) (if raw = [] then N - (q.length + 1) else a) (N - q.length) (by omega)
        refine ⟨fun t ht => by have := i1 t ht; simp at this ⊢; omega, ?_⟩
        rw [if_neg (show ¬ raw ++ [c] = [] by simp)] at i2
        simp only [List.length_cons]
        omega
      by_cases hc : c = 60
      · subst hc
        cases hno : noteL (60 :: q) with
        | some e =>
          rw [lexL_note hno]
          have h2 := (noteL_suf hno).2
          simp only [List.length_cons] at h2
          obtain ⟨i1, i2⟩ := ih e raw a b (by omega)
          exact ⟨fun t ht => by have := i1 t ht; simp; omega, by simp only [List.length_cons]; omega⟩
        | none =>
          cases hta : tagL N (60 :: q) with
          | none => exact hch (.inr ⟨hno, hta⟩)
          | some te =>
            obtain ⟨t, e⟩ := te
            rw [lexL_tag hno hta]
            have h2 := (tagL_len hta).2
            simp only [List.length_cons] at h2
            obtain ⟨i1, i2⟩ := ih e [] a b (by omega)
            obtain ⟨f1, f2⟩ := hfl raw a b
            have htx : t.text = [] := (tagL_text hta).1
            refine ⟨fun x hx => ?_, ?_⟩
            · rcases List.mem_append.1 hx with hx | hx
              · exact Nat.le_trans (f2 x hx) (Nat.le_add_right _ _)
              · rcases List.mem_cons.1 hx with rfl | hx
                · rw [htx]; exact Nat.zero_le _
                · have := i1 x hx
                  simp at this ⊢
                  omega
            · rw [List.length_append, List.length_cons, f1]
              simp only [List.length_cons, if_true] at i2 ⊢
              omega
      · exact hch (.inl hc)
theorem map_snoc {L : List TkA} {d : List Tk} {x : Tk} (h : L.map Prod.fst = d ++ [x]) : ∃ D p, L = D ++ [p] ∧ D.map Prod.fst = d ∧ p.1 = x := by
  obtain ⟨D, Q, h1, h2, h3⟩ := List.map_eq_append_iff.1 h
  cases Q with
  | nil => cases h3
  | cons p Q =>
    cases Q with
    | cons _ _ => cases h3
    | nil => exact ⟨D, p, h1, h2, by simpa using h3⟩
theorem map_step {f : Tk → Tk} {l : List Tk} {k : Nat} {c : Tk} (h : l[k]? = some c) : (l.take (k + 1)).map f ++ l.drop (k + 1) = ((l.take k).map f ++ l.drop k).set k (f c) := by
  obtain ⟨hk, e⟩ := List.getElem?_eq_some_iff.1 h
  have hm : min k l.length = k := Nat.min_eq_left (Nat.le_of_lt hk)
  rw [List.take_succ_eq_append_getElem hk, List.map_append, List.drop_eq_getElem_cons hk, e, List.set_append_right _ _ (by simp; omega)]
  simp [hm]
theorem map_same {f : Tk → Tk} {l : List Tk} {k : Nat} {c : Tk} (h : l[k]? = some c) (hc : f c = c) : (l.take (k + 1)).map f ++ l.drop (k + 1) = (l.take k).map f ++ l.drop k := by
  obtain ⟨hk, e⟩ := List.getElem?_eq_some_iff.1 h
  rw [List.take_succ_eq_append_getElem hk, List.map_append, List.drop_eq_getElem_cons hk, e]
  simp [hc]
def opB (raw : List UInt8) : Bool := !raw.isEmpty
section
variable {B lb ob sb rb : Nat} {s : ByteArray} {op : Bool} {L : List TkA} {w w' : World}
theorem AS.mv {S : Nat → Prop} (h : AS B lb ob sb rb s op L w) (k : Mv S w w') (hS : ∀ g, S g → Nb lb ob sb rb g) (h1 : ¬ S lb) (h2 : ¬ S ob) (h3 : ¬ S sb) : AS B lb ob sb rb s op L w' := by
  obtain ⟨⟨lv, gb, h0⟩, hob, hsb⟩ := h
  exact ⟨⟨lv, gb, h0.mv k hS h1⟩, k.block hob h2, k.block hsb h3⟩
theorem AS.rdr (h : AS B lb ob sb rb s op L w) (k : Mv (· = rb) w w') (hd : Dist B lb ob sb rb) : AS B lb ob sb rb s op L w' :=
  h.mv k (fun g hg => .inr (.inr (.inr hg))) (by show ¬ lb = rb; have := hd.lr; omega) (by show ¬ ob = rb; have := hd.ro; omega) (by show ¬ sb = rb; have := hd.sl; have := hd.lr; omega)
theorem AS.ext (h : AS B lb ob sb rb s op L w) (k : Ext w w') : AS B lb ob sb rb s op L w' := h.mv (S := fun _ => False) (Mv.ofExt k) (fun _ h => h.elim) id id id
end
def TkRd (w : World) (v : Value) (l : List Tk) : Prop := ∃ L : List TkA, L.map Prod.fst = l ∧ RowP w (fun _ => True) 55 7 v L.length (tkCells L) ∧ ∀ p ∈ L, RowRd w 2 p.2 p.1.attrs.length (attrCells p.1.attrs)
structure TkAt (w : World) (g i : Nat) (t : Tk) : Prop where
  kind : w.cell? ⟨g, i * 7, none⟩ = some (.int .i64 t.kind)
  name : w.cell? ⟨g, i * 7 + 1, none⟩ = some (.string (bs t.name))
  text : w.cell? ⟨g, i * 7 + 2, none⟩ = some (.string (bs t.text))
  attrs : ∃ a c, w.cell? ⟨g, i * 7 + 3, none⟩ = some (.slice a t.attrs.length c) ∧ RowRd w 2 (.slice a t.attrs.length c) t.attrs.length (attrCells t.attrs)
  self : w.cell? ⟨g, i * 7 + 4, none⟩ = some (.int .i64 (selfZ t.self))
  lo : w.cell? ⟨g, i * 7 + 5, none⟩ = some (.int .i64 (t.lo : Int))
  hi : w.cell? ⟨g, i * 7 + 6, none⟩ = some (.int .i64 (t.hi : Int))
theorem TkRd.at {w : World} {v : Value} {l : List Tk} (h : TkRd w v l) : ∃ a cap, v = .slice a l.length cap ∧ l.length ≤ cap ∧ (0 < l.length → ∃ g, a = some ⟨g, 0, none⟩ ∧ ∀ i t, l[i]? = some t → TkAt w g i t) := by
  obtain ⟨L, h1, h2, h3⟩ := h
  have hl : L.length = l.length := by rw [← h1, List.length_map]
  rcases h2.2 with ⟨h0, a, e⟩ | ⟨g, cap, cur, e, _, h5, h6, _, _, h9⟩
  · exact ⟨a, 0, by rw [e, ← hl, h0], by omega, fun hp => absurd hp (by omega)⟩
  · refine ⟨some ⟨g, 0, none⟩, cap, by rw [e, hl], by omega, fun _ => ⟨g, rfl, fun i t ht => ?_⟩⟩
    rw [← h1, List.getElem?_map] at ht
    cases hp : L[i]? with
    | none => rw [hp] at ht; cases ht
    | some p =>
      rw [hp] at ht
      have : p.1 = t := by simpa using ht
      subst this
      have c0 := row_cell (f := 0) h5 h9 hp (v := .int .i64 p.1.kind) rfl
      rw [Nat.add_zero] at c0
      have hr := h3 p (List.mem_of_getElem? hp)
      obtain ⟨aa, ac, ea, _⟩ := hr.len_of
      exact ⟨c0, row_cell (f := 1) h5 h9 hp (v := .string (bs p.1.name)) rfl, row_cell (f := 2) h5 h9 hp (v := .string (bs p.1.text)) rfl, ⟨aa, ac, (by rw [← ea]; exact row_cell (f := 3) h5 h9 hp (v := p.2) rfl), ea ▸ hr⟩,
        row_cell (f := 4) h5 h9 hp (v := .int .i64 (selfZ p.1.self)) rfl, row_cell (f := 5) h5 h9 hp (v := .int .i64 (p.1.lo : Int)) rfl, row_cell (f := 6) h5 h9 hp (v := .int .i64 (p.1.hi : Int)) rfl⟩
def TkNew (B : Nat) (w : World) (v : Value) (l : List Tk) : Prop := ∃ L : List TkA, L.map Prod.fst = l ∧ RowP w (fun _ => True) 55 7 v L.length (tkCells L) ∧ ∀ p ∈ L, RowP w (fun g => B ≤ g) 104 2 p.2 p.1.attrs.length (attrCells p.1.attrs)
def RAllN (t : ByteArray) (w : World) (e : Ending) (w' : World) : Prop :=
  (8192 < t.size ∧ e = .returned (.tuple #[.slice none 0 0, .int .i64 10]) ∧ Ext w w') ∨ (t.size ≤ 8192 ∧ ∃ v, e = .returned (.tuple #[v, .int .i64 0]) ∧ Ext w w' ∧ TkNew w.heap.size w' v (tokens t.data.toList))
def RAll (t : ByteArray) (w : World) (e : Ending) (w' : World) : Prop :=
  (8192 < t.size ∧ e = .returned (.tuple #[.slice none 0 0, .int .i64 10]) ∧ Ext w w') ∨ (t.size ≤ 8192 ∧ ∃ v, e = .returned (.tuple #[v, .int .i64 0]) ∧ Ext w w' ∧ TkRd w' v (tokens t.data.toList))
def ARel (B lb ob sb rb : Nat) (t : ByteArray) (w : World) (gf : Nat) (wr : World) : Prop := ∃ (done : List Tk) (raw : List UInt8) (a b : Nat) (r : List UInt8) (L : List TkA),
  Rd rb t r wr ∧ AS B lb ob sb rb t (opB raw) L wr ∧ Ext w wr ∧ L.map Prod.fst = done ++ flushT raw a b ∧ r.length ≤ gf ∧ done ++ lexL t.size raw a b r = lexL t.size [] 0 0 t.data.toList ∧ L.length + r.length ≤ t.size ∧ raw.length + r.length ≤ t.size
theorem flush_nil (a b : Nat) : flushT [] a b = [] := rfl
theorem flush_some {raw : List UInt8} (h : raw ≠ []) (a b : Nat) : flushT raw a b = [⟨1, [], raw, [], false, a, b⟩] := if_neg h
theorem opB_nil : opB [] = false := rfl
theorem opB_some {raw : List UInt8} (h : raw ≠ []) : opB raw = true := by cases raw; exact absurd rfl h; rfl
theorem All_new (s : ByteArray) (hs : s.size ≤ 10000000000) (w : World) (hl : LW w) : Calls Tryz.prog 24 #[.string s] w (RAllN (anewB s) w) := by
  have HA := qh (xanew_any s (by omega))
  obtain ⟨t, ht⟩ : ∃ t, anewB s = t := ⟨_, rfl⟩
  rw [ht] at HA ⊢
  have hmf : ∀ (fn : Fn) (first cap : Array Value) (w : World), (Instr.makeFunc fn first cap).run Tryz.prog w = .ok (.func fn first cap) w := fun _ _ _ _ => rfl
  have HL := qh hl
  clear ht hs hl
  have x0 := (Ext.refl w).alloc (.cells #[.string s] 9)
  have hb0 := heap_alloc_new w (.cells #[.string s] 9)
  go_enter Tryz.func24, Tryz.ntmps24
  go_upto_region 1 with fail
  obtain ⟨w0, hw0⟩ : ∃ w' : World, w' = w.alloc (.cells #[.string s] 9) := ⟨_, rfl⟩
  rw [← hw0] at x0 hb0 ⊢
  clear hw0
  obtain ⟨sb, hsb⟩ : ∃ b, w.heap.size = b := ⟨_, rfl⟩
  rw [hsb] at hb0 ⊢
  have HSB := qh hsb
  have c0 := cellOf hb0 (i := 0) (v := .string s) rfl
  have X0 := qh x0
  have HB0 := qh hb0
  clear hsb x0 hb0
  go_wp2_with (go_at_call 49; refine (HA.out _).mono ?_)
  rintro e w1 ⟨rfl, x1⟩
  have hb1 := x1.block HB0.out
  have c1 := cellOf hb1 (i := 0) (v := .string s) rfl
  have f1 := freeOf hb1 0
  have x2 : Ext w (w1.setCell ⟨sb, 0, none⟩ (.string t)) := (X0.out.trans x1).setCell (p := ⟨sb, 0, none⟩) (by show w.heap.size ≤ sb; rw [HSB.out]; exact Nat.le_refl _) _
  have hb2 := heap_setCell_same (i := 0) hb1 (.string t)
  clear x1 hb1 c0
  go_upto_region 2 with fail
  obtain ⟨w2, hw2⟩ : ∃ w' : World, w' = w1.setCell ⟨sb, 0, none⟩ (.string t) := ⟨_, rfl⟩
  rw [← hw2] at x2 hb2 ⊢
  clear hw2 c1 f1
  have hb2 : w2.heap[sb]? = some (.cells #[.string t] 9 (0, 0)) := hb2
  have c2 := cellOf hb2 (i := 0) (v := .string t) rfl
  have X2 := qh x2
  have HB2 := qh hb2
  clear x2 hb2
  by_cases hlong : 8192 < t.size
  · have hli : decide ((8192 : Int) < (t.size : Int)) = true := decide_eq_true (by omega)
    have hln : decide (8192 < t.size) = true := decide_eq_true hlong
    have HLO := qh hlong
    clear hlong
    go_wp2_with fail
    go_ret2
    exact .inl ⟨HLO.out, rfl, X2.out⟩
  have hli : decide ((8192 : Int) < (t.size : Int)) = false := decide_eq_false (by omega)
  have hln : decide (8192 < t.size) = false := decide_eq_false hlong
  have h81 : t.size ≤ 8192 := by omega
  have H81 := qh h81
  clear hlong
  go_upto_region 4 with fail
  clear hli hln
  have x3 := (Ext.refl w2).alloc (.cells #[.slice none 0 0] 44)
  have hb3 := heap_alloc_new w2 (.cells #[.slice none 0 0] 44)
  obtain ⟨lb, hlb⟩ : ∃ b, w2.heap.size = b := ⟨_, rfl⟩
  have HLB := qh hlb
  clear hlb
  go_upto_region 5 with fail
  obtain ⟨w3, hw3⟩ : ∃ w' : World, w' = w2.alloc (.cells #[.slice none 0 0] 44) := ⟨_, rfl⟩
  have hs3 : Hid (w3.heap.size = w2.heap.size + 1) := qh (by rw [hw3]; simp)
  rw [← hw3] at x3 hb3 ⊢
  clear hw3
  rw [HLB.out] at hb3 ⊢
  have c3 := x3.cell c2
  have x4 := (Ext.refl w3).alloc (.cells #[.string t, .int .i64 0] 107)
  have hb4 := heap_alloc_new w3 (.cells #[.string t, .int .i64 0] 107)
  obtain ⟨rb, hrb⟩ : ∃ b, w3.heap.size = b := ⟨_, rfl⟩
  have HRB := qh hrb
  clear hrb
  go_upto_region 6 with fail
  obtain ⟨w4, hw4⟩ : ∃ w' : World, w' = w3.alloc (.cells #[.string t, .int .i64 0] 107) := ⟨_, rfl⟩
  have hs4 : Hid (w4.heap.size = w3.heap.size + 1) := qh (by rw [hw4]; simp)
  rw [← hw4] at x4 hb4 ⊢
  clear hw4 c3 c2
  rw [HRB.out] at hb4 ⊢
  have x5 := (Ext.refl w4).alloc (.cells #[.bool false] 4)
  have hb5 := heap_alloc_new w4 (.cells #[.bool false] 4)
  obtain ⟨ob, hob⟩ : ∃ b, w4.heap.size = b := ⟨_, rfl⟩
  have HOB := qh hob
  clear hob
  go_upto_region 7 with fail
  obtain ⟨w5, hw5⟩ : ∃ w' : World, w' = w4.alloc (.cells #[.bool false] 4) := ⟨_, rfl⟩
  rw [← hw5] at x5 hb5 ⊢
  clear hw5
  rw [HOB.out] at hb5 ⊢
  have hB : sb < w2.heap.size := (Array.getElem?_eq_some_iff.1 HB2.out).1
  have HD : Hid (Dist w.heap.size lb ob sb rb) := qh (by
    have e1 := HSB.out; have e2 := HLB.out; have e3 := HRB.out; have e4 := HOB.out; have e5 := hs3.out; have e6 := hs4.out
    exact ⟨by omega, by omega, by omega, by omega⟩)
  have hz : t.data.toList.length = t.size := rfl
  have HREL0 : Hid (ARel w.heap.size lb ob sb rb t w t.size w5) := qh (by
    have hx35 := (x4.trans x5)
    refine ⟨[], [], 0, 0, t.data.toList, [], ⟨0, by rw [hz, Nat.zero_add], rfl, x5.block hb4⟩, ⟨⟨.slice none 0 0, none, ⟨hx35.block hb3, ⟨rfl, .inl ⟨rfl, none, rfl⟩⟩, (fun z hz => by cases hz), (fun p hp => by cases hp)⟩⟩, hb5, ((x3.trans x4).trans x5).block HB2.out⟩, X2.out.trans ((x3.trans x4).trans x5), rfl, by rw [hz]; exact Nat.le_refl _, rfl, by rw [hz]; simp, by rw [hz]; simp⟩)
  clear x3 x4 x5 hb3 hb4 hb5 hs3 hs4 hB hz
  have HT := qh (lexL_small t.size t.data.toList.length t.data.toList [] 0 0 (Nat.le_refl _))
  go_wp2_with fail
  go_loopg [8, 9, 10] t.size (fun gf _ _ _ wr => ARel w.heap.size lb ob sb rb t w gf wr)
  case atStart => exact HREL0.out
  case round =>
    obtain ⟨done, raw, a, b, r, L, hrd, has, hx, hfl, hgf, hlex, hll, hrl⟩ := hrel
    have HAS := qh has
    have HX := qh hx
    have HFL := qh hfl
    have HGF := qh hgf
    have HLEX := qh hlex
    have HLL := qh hll
    have HRL := qh hrl
    have HRD := qh hrd
    have hd := HD.out
    obtain ⟨k, k1, k2, k3⟩ := hrd
    obtain ⟨⟨lv0, gb0, tl0⟩, hob0, hsb0⟩ := has
    have hbz : w.heap.size ≤ wr.heap.size := hx.size
    have hrbz := (Array.getElem?_eq_some_iff.1 k3).1
    have c0 : ∀ u : ExtOf wr, u.val.cell? ⟨rb, 1, none⟩ = some (.int .i64 k) := fun u => u.ext.cell (cellOf k3 rfl)
    have c1 : ∀ u : ExtOf wr, u.val.cell? ⟨sb, 0, none⟩ = some (.string t) := fun u => u.ext.cell (cellOf hsb0 rfl)
    have HK := qh (And.intro k1 (And.intro k2 k3))
    clear hx hfl hgf hlex hll hrl tl0 hob0 hsb0 k3 hd
    cases r with
    | nil =>
      have hlt : decide ((k : Int) < (t.size : Int)) = false := decide_eq_false (by simp at k1; omega)
      have hltn : decide (k < t.size) = false := decide_eq_false (by simp at k1; omega)
      clear k1 k2
      go_upto_region 8 with fail
      refine wp_region_ext (by kernel_rfl) (by kernel_rfl) ?_
      repeat (go_big_quiet_step (fail))
      refine wpQuiet_nil ?_
      rintro _ ⟨u, rfl⟩
      have xu := u.ext
      obtain ⟨w6, hw6⟩ : ∃ w', u.val = w' := ⟨_, rfl⟩
      rw [hw6] at xu ⊢
      obtain ⟨⟨lv, gb, tl6⟩, _, _⟩ := HAS.out.ext xu
      have c6 := cellOf tl6.box (i := 0) (v := lv) rfl
      have XW6 := qh (HX.out.trans xu)
      have HTL6 := qh tl6
      have HTT : Hid (L.map Prod.fst = lexL t.size [] 0 0 t.data.toList) := qh (by rw [HFL.out, ← HLEX.out, lexL_nil])
      obtain ⟨la, lcap, hlv, _⟩ := tl6.row.rd.len_of
      have HLV := qh hlv
      rw [hlv] at c6
      clear c0 c1 hw6 xu tl6 hlt hltn hlv
      clear u
      obtain ⟨T, hT⟩ : ∃ T, lexL t.size [] 0 0 t.data.toList = T := ⟨_, rfl⟩
      rw [hT] at HTT
      have HTE := qh hT
      have hTl : L.length = T.length := by rw [← HTT.out, List.length_map]
      clear hT
      go_wp2_with fail
      clear c6
      go_loopw [71, 11] (fun i _ wl => ∃ (m : Nat) (L' : List TkA), m ≤ L.length ∧ i = .int .i64 m ∧ TL w.heap.size (Nb lb ob sb rb) lb L' lv gb wl ∧ L'.length = L.length ∧ L'.map Prod.fst = (T.take m).map Tk.fin ++ T.drop m ∧ Ext w wl) (fun i _ _ => L.length - (intOf i).toNat)
      case atStart => exact ⟨0, L, Nat.zero_le _, rfl, HTL6.out, rfl, by simpa using HTT.out, XW6.out⟩
      case round =>
        obtain ⟨m, L', hm, rfl, htl, hl', hmap, hxl⟩ := hrel
        have HTLL := qh htl
        have HL' := qh hl'
        have HMAP := qh hmap
        have HXL := qh hxl
        have c6 := cellOf htl.box (i := 0) (v := lv) rfl
        have hlen8 : L.length ≤ 8192 := by have := HLL.out; simp at this; omega
        by_cases hml : m < L.length
        · obtain ⟨p, hp⟩ : ∃ p, L'[m]? = some p := ⟨L'[m]'(by omega), List.getElem?_eq_getElem (by omega)⟩
          have htp : T[m]? = some p.1 := by
            have h1 := congrArg (fun l : List Tk => l[m]?) hmap
            simp only [List.getElem?_map, hp, Option.map_some] at h1
            rw [List.getElem?_append_right (by simp; omega)] at h1
            have hmin : min m T.length = m := by omega
            simp only [List.length_map, List.length_take, hmin, Nat.sub_self, List.getElem?_drop, Nat.add_zero] at h1
            exact h1.symm
          obtain ⟨g, cap, cur, hgb, hBg, hNg, hlvg, hrow, hrl, hq1, hq2, hrt⟩ := htl.some_ (by omega)
          have hlv2 : Value.slice la L.length lcap = Value.slice (some ⟨g, 0, none⟩) L'.length cap := HLV.out.symm.trans hlvg
          rw [hl'] at hlv2
          injection hlv2 with hla hlc1 hlc2
          subst hla
          subst hlc2
          have e0 := row_cell (f := 0) hrow hrt hp (v := .int .i64 p.1.kind) rfl
          have e2 := row_cell (f := 2) hrow hrt hp (v := .string (bs p.1.text)) rfl
          have ff2 := freeOf hrow (m * 7 + 2)
          rw [Nat.add_zero] at e0
          rw [HLV.out] at c6
          have HP := qh hp
          have HTP := qh htp
          have HGB := qh hgb
          have hgl : g ≠ lb := fun e => hNg (.inl e)
          have hgs : g ≠ sb := fun e => hNg (.inr (.inr (.inl e)))
          have HTX := qh (HT.out.1 p.1 (by rw [HTE.out]; exact List.mem_of_getElem? htp))
          have htn : (m : Int).toNat = m := by omega
          have hmi : (m : Int) < (L.length : Int) := by omega
          have hm0 : (0 : Int) ≤ (m : Int) := by omega
          have hbw : w.heap.size ≤ g := hBg
          clear htl hl' hmap hxl hp htp hgb hNg hlvg hrow hrl hq1 hq2 hrt hBg
          by_cases hk1 : p.1.kind = 1
          · have hki : (p.1.kind == 1) = true := by rw [hk1]; rfl
            have HK1 := qh hk1
            clear hk1
            have HNX : Hid ((T.take (m + 1)).map Tk.fin ++ T.drop (m + 1) = ((T.take m).map Tk.fin ++ T.drop m).set m p.1.fin) := qh (map_step HTP.out)
            have hdz : (bs p.1.text).size ≤ 100000000000 := by rw [bs_size]; have h7 := HTX.out; have h8 := H81.out; have hz : t.data.toList.length = t.size := rfl; have h9 : ([] : List UInt8).length = 0 := rfl; omega
            have HDE := qh (fun W hW => (show Calls Tryz.prog 55 #[.string (bs p.1.text)] W (RVal (.string (bs (decT p.1.text))) W) from Decode_any (bs p.1.text) hdz W hW))
            obtain ⟨dt, hdt⟩ : ∃ x, decT p.1.text = x := ⟨_, rfl⟩
            rw [hdt] at HDE
            have HFI : Hid (p.1.fin = { p.1 with text := dt }) := qh (by unfold Tk.fin; rw [if_pos HK1.out, hdt])
            obtain ⟨pt, hpt⟩ : ∃ pt, bs p.1.text = pt := ⟨_, rfl⟩
            rw [hpt] at e2 HDE
            obtain ⟨kd, hkd⟩ : ∃ z, p.1.kind = z := ⟨_, rfl⟩
            rw [hkd] at e0 hki
            clear hpt hdz hkd hdt
            go_upto_region 24 with fail
            refine wp_region_E (S := fun w' => w'.cell? ⟨lb, 0, none⟩ = some (.slice (some ⟨g, 0, none⟩) L.length lcap) ∧ w'.cell? ⟨g, m * 7 + 2, none⟩ = some (.string pt)) (n := 10) (by kernel_rfl) ?_
            have hS : wr.drew.cell? ⟨lb, 0, none⟩ = some (.slice (some ⟨g, 0, none⟩) L.length lcap) ∧ wr.drew.cell? ⟨g, m * 7 + 2, none⟩ = some (.string pt) := ⟨c6, e2⟩
            show wpE _ _ _ _ _ 10 11 (Array.replicate 11 false) _ _
            refine wpE_tk 0 80 (.slice (some ⟨g, 0, none⟩) L.length lcap) rfl (.inl ⟨by rfl, fun w' hSw => ?_⟩) hS ?_
            · (obtain ⟨s1, s2⟩ := hSw; clear hS; go_simp)
            try simp only [Act.put, zA, zB, zC]
            refine wpE_tk 1 81 (.int .i64 m) rfl (.inl ⟨by rfl, fun w' hSw => ?_⟩) hS ?_
            · (obtain ⟨s1, s2⟩ := hSw; clear hS; go_simp)
            try simp only [Act.put, zA, zB, zC]
            refine wpE_tk 2 82 (.slice (some ⟨g, 0, none⟩) L.length lcap) rfl (.inl ⟨by rfl, fun w' hSw => ?_⟩) hS ?_
            · (obtain ⟨s1, s2⟩ := hSw; clear hS; go_simp)
            try simp only [Act.put, zA, zB, zC]
            refine wpE_tk 3 83 (.int .i64 m) rfl (.inl ⟨by rfl, fun w' hSw => ?_⟩) hS ?_
            · (obtain ⟨s1, s2⟩ := hSw; clear hS; go_simp)
            try simp only [Act.put, zA, zB, zC]
            refine wpE_tk 4 84 (.pointer (some ⟨g, m * 7, none⟩)) rfl (.inl ⟨by rfl, fun w' hSw => ?_⟩) hS ?_
            · (obtain ⟨s1, s2⟩ := hSw; clear hS; go_simp)
            try simp only [Act.put, zA, zB, zC]
            refine wpE_tk 5 85 (.pointer (some ⟨g, m * 7 + 2, none⟩)) rfl (.inl ⟨by rfl, fun w' hSw => ?_⟩) hS ?_
            · (obtain ⟨s1, s2⟩ := hSw; clear hS; go_simp)
            try simp only [Act.put, zA, zB, zC]
            refine wpE_tk 6 86 (.string pt) rfl (.inl ⟨by rfl, fun w' hSw => ?_⟩) hS ?_
            · (obtain ⟨s1, s2⟩ := hSw; clear hS; go_simp)
            try simp only [Act.put, zA, zB, zC]
            obtain ⟨wd, hwd⟩ : ∃ wd : World, wd = wr.drew := ⟨_, rfl⟩
            have xd : Ext wr wd := by rw [hwd]; exact (Ext.refl _).drew
            rw [← hwd] at hS ⊢
            clear hwd
            refine wpE_on 7 (some 87) rfl (fun K hK => ?_)
            go_simp
            go_at_call 55
            refine (HDE.out wd (HL.out.ext (HXL.out.trans xd))).mono ?_
            rintro e w30 ⟨rfl, x30⟩
            have x31 : Ext wr w30 := xd.trans x30
            have hS2 := And.intro (x31.cell c6) (x31.cell e2)
            have gf2 := x31.free (cell_lt e2) ff2
            have TL30 := qh (HTLL.out.ext x31)
            have X30 := qh (HXL.out.trans x31)
            refine hK.out _ _ (.inr hS2) ?_
            clear hK K hS x30 x31 xd
            have hS := hS2
            clear hS2
            try simp only [Act.put, zA, zB, zC]
            refine wpE_on 8 (some 88) rfl (fun K hK => ?_)
            go_simp
            refine hK.out _ _ (.inr hS) ?_
            clear hK K
            try simp only [Act.put, zA, zB, zC]
            refine wpE_on 9 (some 89) rfl (fun K hK => ?_)
            go_simp
            refine hK.out _ _ (.inr hS) ?_
            clear hK K
            try simp only [Act.put, zA, zB, zC]
            have hcg := hS.2
            refine wpE_on 10 (none) rfl (fun K hK => ?_)
            go_simp
            refine hK.out _ _ (.inl rfl) ?_
            clear hK K hS hcg
            refine wpE_done (by kernel_rfl) ?_
            have TL31 := qh (TL30.out.set (i := m) (f := 2) (p' := (p.1.fin, p.2)) (v := .string (bs dt)) HP.out (by decide) (by rw [HFI.out]; rfl) rfl (by rw [HFI.out]) (.inl rfl) HGB.out)
            have X31 : Hid (Ext w (w30.setCell ⟨g, m * 7 + 2, none⟩ (.string (bs dt)))) := qh (X30.out.setCell (p := ⟨g, m * 7 + 2, none⟩) hbw _)
            clear gf2
            go_wp2_with fail
            go_roundw
            case rel => exact ⟨m + 1, L'.set m (p.1.fin, p.2), by omega, by go_num, TL31.out, by rw [List.length_set]; exact HL'.out, by rw [HNX.out, ← HMAP.out, List.map_set], X31.out⟩
            case measure => simp [intOf]; omega
          · have hki : (p.1.kind == 1) = false := by rw [beq_eq_false_iff_ne]; exact hk1
            have HNX : Hid ((T.take (m + 1)).map Tk.fin ++ T.drop (m + 1) = (T.take m).map Tk.fin ++ T.drop m) := qh (map_same HTP.out (by unfold Tk.fin; rw [if_neg hk1]))
            obtain ⟨kd, hkd⟩ : ∃ z, p.1.kind = z := ⟨_, rfl⟩
            rw [hkd] at e0 hki
            clear hkd hk1 e2
            go_wp2_with fail
            go_roundw
            case rel => exact ⟨m + 1, L', by omega, by go_num, HTLL.out, HL'.out, by rw [HNX.out]; exact HMAP.out, HXL.out⟩
            case measure => simp [intOf]; omega
        · obtain rfl : m = L.length := by omega
          have hfin : L'.map Prod.fst = tokens t.data.toList := by
            rw [hmap, hTl, List.take_length, List.drop_length, List.append_nil]
            unfold tokens
            rw [show t.data.toList.length = t.size from rfl, HTE.out]
          have HFIN : Hid (TkNew w.heap.size wr lv (tokens t.data.toList)) := qh ⟨L', hfin, RowP.imp htl.row (fun _ _ _ => trivial), fun p hp => RowP.imp (htl.att p hp) fun g _ hg => hg.1⟩
          clear hfin htl hl' hmap hxl
          go_wp2_with fail
          go_ret2
          exact .inr ⟨H81.out, lv, rfl, HXL.out, HFIN.out⟩
    | cons c q =>
      obtain ⟨hk, hck, hq1, hq2⟩ := Rd.head k1 k2
      have hlt : decide ((k : Int) < (t.size : Int)) = true := decide_eq_true (by omega)
      have hltn : decide (k < t.size) = true := decide_eq_true hk
      have hix : ∀ W : World, (Instr.index 9 (.string t) (.int .i64 (k : Int))).run Tryz.prog W = .ok (.int .u8 (c.toNat : Int)) W := by
        intro W
        rw [run_index_string W 9 t .i64 (k : Int) Tryz.underlying9, dif_pos ⟨by omega, by omega⟩]
        simp only [Int.toNat_natCast, hck]
      have HQ := qh (And.intro hq1 hq2)
      have hkl : k + (q.length + 1) = t.size := by simpa using k1
      clear k1 k2 hq1 hq2 hck
      go_upto_region 8 with fail
      refine wp_region_ext (by kernel_rfl) (by kernel_rfl) ?_
      repeat (go_big_quiet_step (fail))
      refine wpQuiet_nil ?_
      rintro _ ⟨u, rfl⟩
      have xu := u.ext
      have c0' := c0 u
      have c1' := c1 u
      obtain ⟨w6, hw6⟩ : ∃ w', u.val = w' := ⟨_, rfl⟩
      rw [hw6] at xu c0' c1' ⊢
      have X6 := qh xu
      have HAS6 := qh (HAS.out.ext xu)
      have HRD6 := qh (HRD.out.ext xu)
      have XW6 := qh (HX.out.trans xu)
      clear c0 c1 hw6 xu
      clear u
      have hu8 := u8_ne c 60
      by_cases hc : c = 60
      · subst hc
        have e60 : (((60 : UInt8).toNat : Int) != 60) = false := rfl
        have e60b : ((60 : Int) != 60) = false := rfl
        clear hu8
        have HNOTE := qh (note_any rb t (60 :: q) w6 (by omega) HRD6.out (HL.out.ext XW6.out))
        cases hno : noteL (60 :: q) with
        | some e5 =>
          rw [hno] at HNOTE
          have HN := qh (lexL_note (N := t.size) (raw := raw) (a := a) (b := b) hno)
          have hn2 := (noteL_suf hno).2
          simp only [List.length_cons] at hn2
          clear hno
          go_wp2_with (go_at_call 53; refine HNOTE.out.mono ?_)
          rintro e w7 ⟨rfl, m7, r7⟩
          have M7 := qh m7
          have R7 := qh r7
          clear m7 r7 c0' c1'
          go_wp2_with fail
          obtain ⟨g', rfl⟩ : ∃ g', gk = g' + 1 := ⟨gk - 1, by have := HGF.out; simp at this; omega⟩
          go_roundg g'
          case measure => omega
          case rel =>
            have h1 := HGF.out; have h2 := HLL.out; have h3 := HRL.out
            simp only [List.length_cons] at h1 h2 h3
            exact ⟨done, raw, a, b, e5, L, R7.out, HAS6.out.rdr M7.out HD.out, Mv.toExt XW6.out M7.out (fun x hx => by rw [(show x = rb from hx)]; have := HD.out.b; have := HD.out.sl; have := HD.out.lr; omega), HFL.out, by omega, by rw [← HN.out]; exact HLEX.out, by omega, by omega⟩
        | none =>
          rw [hno] at HNOTE
          have HNO := qh hno
          clear hno
          go_wp2_with (go_at_call 53; refine HNOTE.out.mono ?_)
          rintro e w7 ⟨rfl, m7, r7⟩
          have XW7 : Hid (Ext w w7) := qh (Mv.toExt XW6.out m7 (fun x hx => by rw [(show x = rb from hx)]; have := HD.out.b; have := HD.out.sl; have := HD.out.lr; omega))
          have HAS7 := qh (HAS6.out.rdr m7 HD.out)
          have HTAG := qh (tag_any rb t 60 q w7 (by omega) r7 (fun W hW => HL.out.ext (Mv.toExt XW7.out hW (fun x hx => by rw [(show x = rb from hx)]; have := HD.out.b; have := HD.out.sl; have := HD.out.lr; omega))))
          clear m7 r7 c0' c1'
          cases hta : tagL t.size (60 :: q) with
          | some te =>
            obtain ⟨tk, e5⟩ := te
            rw [hta] at HTAG
            have HN := qh (lexL_tag (N := t.size) (raw := raw) (a := a) (b := b) HNO.out hta)
            have hn2 := (tagL_len hta).2
            simp only [List.length_cons] at hn2
            clear hta
            go_wp2_with (go_at_call 54; refine HTAG.out.mono ?_)
            rintro e w8 ⟨av, rfl, m8, r8, hav⟩
            unfold tkV
            have hws7 := m8.size
            have as8 := HAS7.out.rdr m8 HD.out
            obtain ⟨⟨lv, gb, tl7⟩, _, _⟩ := HAS7.out
            have xw8 := Mv.toExt XW7.out m8 (fun x hx => by rw [(show x = rb from hx)]; have := HD.out.b; have := HD.out.sl; have := HD.out.lr; omega)
            have tl8 : TL w.heap.size (Nb lb ob sb rb) lb L lv gb w8 := tl7.mv m8 (fun g hg => .inr (.inr (.inr hg))) (by show ¬ lb = rb; have := HD.out.lr; omega)
            have hN7 : ∀ g, Nb lb ob sb rb g → g < w7.heap.size := by
              obtain ⟨_, hob7, hsb7⟩ := HAS7.out
              rintro g (rfl | rfl | rfl | rfl)
              · exact (Array.getElem?_eq_some_iff.1 tl7.box).1
              · exact (Array.getElem?_eq_some_iff.1 hob7).1
              · exact (Array.getElem?_eq_some_iff.1 hsb7).1
              · have := HD.out.ro; have := (Array.getElem?_eq_some_iff.1 hob7).1; omega
            obtain ⟨ava, avc, rfl, _⟩ := hav.rd.len_of
            have havc := RowP.imp hav.full (q := fun g => w.heap.size ≤ g ∧ ¬ Nb lb ob sb rb g ∧ gb ≠ some g ∧ g < w8.heap.size) (fun g _ hg => ⟨Nat.le_trans XW7.out.size hg.1, fun hn => absurd (hN7 g hn) (Nat.not_lt.2 hg.1), fun e => absurd (tl7.blk g e).1 (Nat.not_lt.2 hg.1), hg.2⟩)
            have x9 := (Ext.refl w8).alloc (.cells (tkV tk.kind tk.name tk.text (.slice ava tk.attrs.length avc) (if tk.self then 1 else 0) tk.lo tk.hi) 55)
            have hb9 := heap_alloc_new w8 (.cells (tkV tk.kind tk.name tk.text (.slice ava tk.attrs.length avc) (if tk.self then 1 else 0) tk.lo tk.hi) 55)
            have as9 := as8.ext x9
            have tl9 := tl8.ext x9
            have r9 := r8.ext x9
            have xw9 := xw8.trans x9
            have hav9 := RowP.imp (havc.ext x9) (q := fun g => w.heap.size ≤ g ∧ ¬ Nb lb ob sb rb g ∧ gb ≠ some g ∧ g < (w8.alloc (.cells (tkV tk.kind tk.name tk.text (.slice ava tk.attrs.length avc) (if tk.self then 1 else 0) tk.lo tk.hi) 55)).heap.size) (fun g _ hg => ⟨hg.1, hg.2.1, hg.2.2.1, Nat.lt_of_lt_of_le hg.2.2.2 x9.size⟩)
            obtain ⟨sz, hsz⟩ : ∃ z : Int, (if tk.self then (1 : Int) else 0) = z := ⟨_, rfl⟩
            unfold tkV at x9 hb9 as9 tl9 r9 xw9 hav9
            rw [hsz] at x9 hb9 as9 tl9 r9 xw9 hav9 ⊢
            have HSZ := qh (show selfZ tk.self = sz from hsz)
            clear m8 r8 hav havc as8 tl8 tl7 xw8 hsz
            go_upto_region 16 with fail
            obtain ⟨w9, hw9⟩ : ∃ w' : World, w' = w8.alloc (.cells #[.int .i64 tk.kind, .string (bs tk.name), .string (bs tk.text), .slice ava tk.attrs.length avc, .int .i64 sz, .int .i64 (tk.lo : Int), .int .i64 (tk.hi : Int)] 55) := ⟨_, rfl⟩
            rw [← hw9] at x9 hb9 as9 tl9 r9 xw9 hav9 ⊢
            clear hw9
            obtain ⟨b9, hb9e⟩ : ∃ b, w8.heap.size = b := ⟨_, rfl⟩
            rw [hb9e] at hb9 ⊢
            have hx9 := x9.size
            clear hb9e
            have d0 := cellOf hb9 (i := 0) (v := .int .i64 tk.kind) rfl
            have d1 := cellOf hb9 (i := 1) (v := .string (bs tk.name)) rfl
            have d2 := cellOf hb9 (i := 2) (v := .string (bs tk.text)) rfl
            have d3 := cellOf hb9 (i := 3) (v := .slice ava tk.attrs.length avc) rfl
            have d4 := cellOf hb9 (i := 4) (v := .int .i64 sz) rfl
            have d5 := cellOf hb9 (i := 5) (v := .int .i64 (tk.lo : Int)) rfl
            have d6 := cellOf hb9 (i := 6) (v := .int .i64 (tk.hi : Int)) rfl
            have c9 := cellOf tl9.box (i := 0) (v := lv) rfl
            obtain ⟨a0, cap0, wB, hrun, hboxB, hmB, gb1, TLP⟩ := tl9.push (by have := HLL.out; omega) (fun g hg => Nat.lt_of_lt_of_le (hN7 g hg) (Nat.le_trans hws7 hx9)) (.inl rfl) xw9.size (tk, .slice ava tk.attrs.length avc) rfl hav9 (cs := #[.int .i64 tk.kind, .string (bs tk.name), .string (bs tk.text), .slice ava tk.attrs.length avc, .int .i64 sz, .int .i64 (tk.lo : Int), .int .i64 (tk.hi : Int)]) (by rw [← HSZ.out]; rfl)
            have nOb : ¬ gb = some ob := fun e => (tl9.blk ob e).2.2 (.inr (.inl rfl))
            have nSb : ¬ gb = some sb := fun e => (tl9.blk sb e).2.2 (.inr (.inr (.inl rfl)))
            have nRb : ¬ gb = some rb := fun e => (tl9.blk rb e).2.2 (.inr (.inr (.inr rfl)))
            obtain ⟨_, OB9, SB9⟩ := as9
            have OBB := hmB.block OB9 nOb
            have SBB := hmB.block SB9 nSb
            have RB := r9.mv hmB nRb
            have XB := Mv.toExt xw9 hmB (fun x hx => (tl9.blk x hx).2.1)
            have m1 : Mv (· = lb) wB (wB.setCell ⟨lb, 0, none⟩ (.slice a0 (L.length + 1) cap0)) := Mv.setRb (Mv.refl _ wB) _
            have hDD := HD.out
            have OB1 := m1.block OBB (show ¬ ob = lb by have := hDD.lr; have := hDD.ro; omega)
            have SB1 := m1.block SBB (show ¬ sb = lb by have := hDD.sl; omega)
            have R1 := RB.mv m1 (show ¬ rb = lb by have := hDD.lr; omega)
            have X1 := Mv.toExt XB m1 (fun x hx => by rw [(show x = lb from hx)]; have := hDD.b; have := hDD.sl; omega)
            have b3 := cellOf hboxB (i := 0) (v := lv) rfl
            have g3 := freeOf hboxB 0
            have HRUN := qh hrun
            have m2 : Mv (· = ob) (wB.setCell ⟨lb, 0, none⟩ (.slice a0 (L.length + 1) cap0)) ((wB.setCell ⟨lb, 0, none⟩ (.slice a0 (L.length + 1) cap0)).setCell ⟨ob, 0, none⟩ (.bool false)) := Mv.setRb (Mv.refl _ _) _
            have OB2 := heap_setCell_same (i := 0) OB1 (.bool false)
            have SB2 := m2.block SB1 (show ¬ sb = ob by have := hDD.sl; have := hDD.lr; have := hDD.ro; omega)
            have R2 := R1.mv m2 (show ¬ rb = ob by have := hDD.ro; omega)
            have X2' := Mv.toExt X1 m2 (fun x hx => by rw [(show x = ob from hx)]; have := hDD.b; have := hDD.sl; have := hDD.lr; have := hDD.ro; omega)
            have TL2 := TLP.mv m2 (fun g hg => .inr (.inl hg)) (show ¬ lb = ob by have := hDD.lr; have := hDD.ro; omega)
            have AS2 : Hid (AS w.heap.size lb ob sb rb t false (L ++ [(tk, .slice ava tk.attrs.length avc)]) ((wB.setCell ⟨lb, 0, none⟩ (.slice a0 (L.length + 1) cap0)).setCell ⟨ob, 0, none⟩ (.bool false))) := qh ⟨⟨_, _, TL2⟩, OB2, SB2⟩
            have R2H := qh R2
            have X2H := qh X2'
            have o1 := cellOf OB1 (i := 0) (v := .bool (opB raw)) rfl
            have o2 := freeOf OB1 0
            have OB1H := qh OB1
            clear hrun hboxB hmB TLP tl9 nOb nSb nRb OB9 SB9 OBB SBB RB XB m1 hDD OB1 SB1 R1 X1 m2 OB2 SB2 R2 X2' TL2 hav9 hb9 x9 r9 xw9 hN7 hws7 hx9
            go_wp2_with (at_builtin; refine wpList_append_run _ rfl _ _ 44 rfl _ _ rfl rfl _ _ HRUN.out ?_)
            obtain ⟨g', rfl⟩ : ∃ g', gk = g' + 1 := ⟨gk - 1, by have := HGF.out; simp at this; omega⟩
            go_roundg g'
            case measure => omega
            case rel =>
              have h1 := HGF.out; have h2 := HLL.out; have h3 := HRL.out
              simp only [List.length_cons] at h1 h2 h3
              refine ⟨done ++ flushT raw a b ++ [tk], [], a, b, e5, L ++ [(tk, .slice ava tk.attrs.length avc)], R2H.out, (by rw [opB_nil]; exact AS2.out), X2H.out, ?_, by omega, ?_, by simp; omega, by simp; omega⟩
              · rw [List.map_append, HFL.out, flush_nil, List.append_nil]; rfl
              · rw [← HLEX.out, HN.out]; simp
          | none =>
            rw [hta] at HTAG
            have HCH := qh (lexL_char (N := t.size) (raw := raw) (a := a) (b := b) (c := 60) (q := q) (.inr ⟨HNO.out, hta⟩))
            clear hta
            go_wp2_with (go_at_call 54; refine HTAG.out.mono ?_)
            rintro e w8 ⟨f0, f1, f2, f3, f3a, f3c, f4, f5, f6, r9, rfl, rfl, m8, r8⟩
            unfold tkV
            have x9 := (Ext.refl w8).alloc (.cells (tkV f0 f1 f2 (.slice f3a 0 f3c) f4 f5 f6) 55)
            have hb9 := (x9.block (show w8.heap[rb]? = some (.cells #[.string t, .int .i64 ((t.size - r9.length : Nat) : Int)] 107 (0, 0)) by obtain ⟨k9, g1, g2, g3⟩ := r8; rw [g3, show t.size - r9.length = k9 by omega]))
            have as9 := (HAS7.out.rdr m8 HD.out).ext x9
            have xw9 := (Mv.toExt XW7.out m8 (fun x hx => by rw [(show x = rb from hx)]; have := HD.out.b; have := HD.out.sl; have := HD.out.lr; omega)).trans x9
            have hwk : IntKind.i64.wrap ((k : Int) + 1) = (k : Int) + 1 := IntWalk.i64_in _ (by omega)
            unfold tkV at x9 hb9 as9 xw9
            clear m8 r8
            go_upto_region 18 with fail
            obtain ⟨w9, hw9⟩ : ∃ w' : World, w' = w8.alloc (.cells #[.int .i64 f0, .string (bs f1), .string (bs f2), .slice f3a 0 f3c, .int .i64 f4, .int .i64 f5, .int .i64 f6] 55) := ⟨_, rfl⟩
            rw [← hw9] at x9 hb9 as9 xw9 ⊢
            clear hw9 x9
            have c9 := cellOf hb9 (i := 1) rfl
            have f9 := freeOf hb9 1
            have RDx := qh (Rd.move (k := k + 1) (r := q) hb9 HQ.out.2 HQ.out.1)
            have hbx := heap_setCell_same (i := 1) hb9 (.int .i64 ((k + 1 : Nat) : Int))
            have m10 : Mv (· = rb) w9 (w9.setCell ⟨rb, 1, none⟩ (.int .i64 ((k + 1 : Nat) : Int))) := Mv.setRb (Mv.refl _ w9) _
            have HASx := qh (as9.rdr m10 HD.out)
            have XWx := qh (Mv.toExt xw9 m10 (fun x hx => by rw [(show x = rb from hx)]; have := HD.out.b; have := HD.out.sl; have := HD.out.lr; omega))
            clear hb9 as9 xw9 m10
            go_upto_region 19 with fail
            obtain ⟨w10, hw10⟩ : ∃ w' : World, w' = w9.setCell ⟨rb, 1, none⟩ (.int .i64 ((k + 1 : Nat) : Int)) := ⟨_, rfl⟩
            have hw10' : w9.setCell ⟨rb, 1, none⟩ (.int .i64 ((k : Int) + 1)) = w10 := by rw [hw10]; push_cast; rfl
            rw [hw10']
            rw [← hw10] at RDx hbx HASx XWx
            clear hw10 hw10' c9 f9 hwk
            have cx := cellOf hbx (i := 1) (v := .int .i64 ((k + 1 : Nat) : Int)) rfl
            have hk2x : k + 1 ≤ t.size := by omega
            have HPCx : Hid (t.extract k (k + 1) = bs [60]) := qh (by
              have h := bs_cut t.data.toList k (k + 1)
              rw [bs_list] at h
              rw [h, ← HK.out.2.1, Nat.add_sub_cancel_left]
              rfl)
            have HLXx : Hid (lexL t.size raw a b (60 :: q) = lexL t.size (raw ++ [60]) (if raw = [] then k else a) (k + 1) q) := qh (by
              have h := HCH.out
              rw [h, show t.size - (q.length + 1) = k by omega, show t.size - q.length = k + 1 by omega])
            have HLENx : Hid (q.length + ([60] : List UInt8).length = q.length + 1 ∧ 1 ≤ ([60] : List UInt8).length) := qh ⟨rfl, by decide⟩
            obtain ⟨k10, hk10⟩ : ∃ j, k + 1 = j := ⟨_, rfl⟩
            rw [hk10] at cx hk2x HPCx HLXx
            have hkk : k ≤ k10 := by omega
            clear hbx hk10
            by_cases hraw : raw = []
            · have HLX0 : Hid (lexL t.size [] a b (60 :: q) = lexL t.size (([60] : List UInt8)) k (k10) (q)) := qh (by have h := HLXx.out; rw [hraw, if_pos rfl, List.nil_append] at h; exact h)
              subst hraw
              have HT5 := qh (text_new w.heap.size lb ob sb rb t L w10 (by omega) (by have := HLL.out; omega) HD.out RDx.out.lt HASx.out k (k10) (by omega) hk2x (([60] : List UInt8)) HPCx.out)
              go_wp2_with (go_at_call 50; refine HT5.out.mono ?_)
              rintro e w20 ⟨rfl, as20, m20⟩
              have AS20 := qh as20
              have M20 := qh m20
              clear as20 m20
              go_wp2_with fail
              obtain ⟨g', rfl⟩ : ∃ g', gk = g' + 1 := ⟨gk - 1, by have := HGF.out; simp at this; omega⟩
              go_roundg g'
              case measure => omega
              case rel =>
                have h1 := HGF.out; have h2 := HLL.out; have h3 := HRL.out; have h4 := HLENx.out
                simp only [List.length_cons] at h1 h2 h3
                have hne : (([60] : List UInt8)) ≠ [] := by intro e; rw [e] at h4; simp at h4
                refine ⟨done, ([60] : List UInt8), k, k10, q, L ++ [(⟨1, [], ([60] : List UInt8), [], false, k, k10⟩, .slice none 0 0)], RDx.out.mv M20.out (fun h => h.2.1 rfl), ?_, Mv.toExt XWx.out M20.out (fun x hx => hx.1), ?_, by omega, ?_, by first | omega | (simp; omega) | (rw [List.length_append, List.length_cons, List.length_nil]; omega), by first | omega | (simp; omega) | (rw [List.length_append]; omega)⟩
                · rw [opB_some hne]; exact AS20.out
                · rw [List.map_append, HFL.out, flush_nil, List.append_nil, flush_some hne]; rfl
                · rw [← HLEX.out, HLX0.out]
            · have hfl2 := HFL.out
              rw [flush_some hraw] at hfl2
              obtain ⟨D, p, rfl, hDm, hp1⟩ := map_snoc hfl2
              have HDM := qh hDm
              have HP1 := qh hp1
              have hop : opB raw = true := opB_some hraw
              have HRW := qh hraw
              have hasx := HASx.out
              rw [hop] at hasx
              have HT5 := qh (text_more w.heap.size lb ob sb rb t D p w10 (by omega) (by have := HLL.out; simp at this; omega) HD.out hasx (by rw [hp1]; have := HRL.out; simp at this ⊢; omega) k (k10) (by omega) hk2x (([60] : List UInt8)) HPCx.out)
              clear hfl2 hDm hp1 hop hasx hraw
              go_wp2_with (go_at_call 50; refine HT5.out.mono ?_)
              rintro e w20 ⟨rfl, as20, m20⟩
              have AS20 := qh as20
              have M20 := qh m20
              clear as20 m20
              go_wp2_with fail
              obtain ⟨g', rfl⟩ : ∃ g', gk = g' + 1 := ⟨gk - 1, by have := HGF.out; simp at this; omega⟩
              go_roundg g'
              case measure => omega
              case rel =>
                have h1 := HGF.out; have h2 := HLL.out; have h3 := HRL.out; have h4 := HLENx.out
                simp only [List.length_cons, List.length_append, List.length_nil] at h1 h2 h3
                have hne : raw ++ (([60] : List UInt8)) ≠ [] := by intro e; exact HRW.out (List.append_eq_nil_iff.1 e).1
                refine ⟨done, raw ++ (([60] : List UInt8)), a, k10, q, D ++ [(p.1.more (([60] : List UInt8)) (k10), p.2)], RDx.out.mv M20.out (fun h => h.2.1 rfl), ?_, Mv.toExt XWx.out M20.out (fun x hx => hx.1), ?_, by omega, ?_, by first | omega | (simp; omega) | (rw [List.length_append, List.length_cons, List.length_nil]; omega), by first | omega | (simp; omega) | (rw [List.length_append]; omega)⟩
                · rw [opB_some hne]; exact AS20.out
                · rw [List.map_append, HDM.out, flush_some hne, List.map_cons, List.map_nil, HP1.out]; rfl
                · rw [← HLEX.out, HLXx.out, if_neg HRW.out]
      · have e60 : ((c.toNat : Int) != 60) = true := hu8.trans (bne_iff_ne.2 hc)
        clear hu8
        have HRUN := qh (run_any rb t (c :: q) (neB 60) _ w6 (by omega) HRD6.out (isAll rb w6))
        go_wp2_with (go_at_call 51; refine HRUN.out.mono ?_)
        rintro e w7 ⟨rfl, m7, r7⟩
        obtain ⟨k7, g1, g2, g3⟩ := r7
        have hpl : (q.takeWhile (neB 60)).length + 1 + ((c :: q).dropWhile (neB 60)).length = q.length + 1 := by
          have h1 := congrArg List.length (take_drop_while (neB 60) (c :: q))
          have h2 : (c :: q).takeWhile (neB 60) = c :: q.takeWhile (neB 60) := List.takeWhile_cons_of_pos (by unfold neB; exact bne_iff_ne.2 hc)
          rw [h2, List.length_append, List.length_cons, List.length_cons] at h1
          exact h1
        have htw : (c :: q).takeWhile (neB 60) = c :: q.takeWhile (neB 60) := List.takeWhile_cons_of_pos (by unfold neB; exact bne_iff_ne.2 hc)
        have hk7 : k7 = k + (c :: q.takeWhile (neB 60)).length := by rw [List.length_cons]; omega
        have hk2x : k7 ≤ t.size := by omega
        have HPCx : Hid (t.extract k k7 = bs (c :: q.takeWhile (neB 60))) := qh (by
          have h := bs_cut t.data.toList k k7
          rw [bs_list] at h
          rw [h, ← HK.out.2.1, hk7, Nat.add_sub_cancel_left]
          conv => lhs; rw [← take_drop_while (neB 60) (c :: q), htw]
          rw [List.take_left' rfl])
        have HLXx : Hid (lexL t.size raw a b (c :: q) = lexL t.size (raw ++ (c :: q.takeWhile (neB 60))) (if raw = [] then k else a) k7 ((c :: q).dropWhile (neB 60))) := qh (by
          have h := lexL_run (N := t.size) (c :: q.takeWhile (neB 60)) raw a b ((c :: q).dropWhile (neB 60)) (by simp) (fun x hx => by
            rw [← htw] at hx
            have := takeWhile_mem hx
            unfold neB at this
            exact bne_iff_ne.1 this)
          rw [← htw, take_drop_while, htw] at h
          rw [h, show t.size - (c :: q).length = k by rw [List.length_cons]; omega, show t.size - ((c :: q).dropWhile (neB 60)).length = k7 by omega])
        have HLENx : Hid (((c :: q).dropWhile (neB 60)).length + (c :: q.takeWhile (neB 60)).length = q.length + 1 ∧ 1 ≤ (c :: q.takeWhile (neB 60)).length) := qh (by rw [List.length_cons]; exact ⟨by omega, by omega⟩)
        have RDx : Hid (Rd rb t ((c :: q).dropWhile (neB 60)) w7) := qh ⟨k7, g1, g2, g3⟩
        have cx := cellOf g3 (i := 1) (v := .int .i64 k7) rfl
        have HASx := qh (HAS6.out.rdr m7 HD.out)
        have XWx : Hid (Ext w w7) := qh (Mv.toExt XW6.out m7 (fun x hx => by rw [(show x = rb from hx)]; have := HD.out.b; have := HD.out.sl; have := HD.out.lr; omega))
        have hkk : k ≤ k7 := by omega
        clear g1 g2 g3 m7 hpl htw hk7 c0' c1' e60 hc
        by_cases hraw : raw = []
        · have HLX0 : Hid (lexL t.size [] a b (c :: q) = lexL t.size (c :: q.takeWhile (neB 60)) k (k7) ((c :: q).dropWhile (neB 60))) := qh (by have h := HLXx.out; rw [hraw, if_pos rfl, List.nil_append] at h; exact h)
          subst hraw
          have HT5 := qh (text_new w.heap.size lb ob sb rb t L w7 (by omega) (by have := HLL.out; omega) HD.out RDx.out.lt HASx.out k (k7) (by omega) hk2x (c :: q.takeWhile (neB 60)) HPCx.out)
          go_wp2_with (go_at_call 50; refine HT5.out.mono ?_)
          rintro e w20 ⟨rfl, as20, m20⟩
          have AS20 := qh as20
          have M20 := qh m20
          clear as20 m20
          go_wp2_with fail
          obtain ⟨g', rfl⟩ : ∃ g', gk = g' + 1 := ⟨gk - 1, by have := HGF.out; simp at this; omega⟩
          go_roundg g'
          case measure => omega
          case rel =>
            have h1 := HGF.out; have h2 := HLL.out; have h3 := HRL.out; have h4 := HLENx.out
            simp only [List.length_cons] at h1 h2 h3
            have hne : (c :: q.takeWhile (neB 60)) ≠ [] := by intro e; rw [e] at h4; simp at h4
            refine ⟨done, c :: q.takeWhile (neB 60), k, k7, (c :: q).dropWhile (neB 60), L ++ [(⟨1, [], c :: q.takeWhile (neB 60), [], false, k, k7⟩, .slice none 0 0)], RDx.out.mv M20.out (fun h => h.2.1 rfl), ?_, Mv.toExt XWx.out M20.out (fun x hx => hx.1), ?_, by omega, ?_, by first | omega | (simp; omega) | (rw [List.length_append, List.length_cons, List.length_nil]; omega), by first | omega | (simp; omega) | (rw [List.length_append]; omega)⟩
            · rw [opB_some hne]; exact AS20.out
            · rw [List.map_append, HFL.out, flush_nil, List.append_nil, flush_some hne]; rfl
            · rw [← HLEX.out, HLX0.out]
        · have hfl2 := HFL.out
          rw [flush_some hraw] at hfl2
          obtain ⟨D, p, rfl, hDm, hp1⟩ := map_snoc hfl2
          have HDM := qh hDm
          have HP1 := qh hp1
          have hop : opB raw = true := opB_some hraw
          have HRW := qh hraw
          have hasx := HASx.out
          rw [hop] at hasx
          have HT5 := qh (text_more w.heap.size lb ob sb rb t D p w7 (by omega) (by have := HLL.out; simp at this; omega) HD.out hasx (by rw [hp1]; have := HRL.out; simp at this ⊢; omega) k (k7) (by omega) hk2x (c :: q.takeWhile (neB 60)) HPCx.out)
          clear hfl2 hDm hp1 hop hasx hraw
          go_wp2_with (go_at_call 50; refine HT5.out.mono ?_)
          rintro e w20 ⟨rfl, as20, m20⟩
          have AS20 := qh as20
          have M20 := qh m20
          clear as20 m20
          go_wp2_with fail
          obtain ⟨g', rfl⟩ : ∃ g', gk = g' + 1 := ⟨gk - 1, by have := HGF.out; simp at this; omega⟩
          go_roundg g'
          case measure => omega
          case rel =>
            have h1 := HGF.out; have h2 := HLL.out; have h3 := HRL.out; have h4 := HLENx.out
            simp only [List.length_cons, List.length_append, List.length_nil] at h1 h2 h3
            have hne : raw ++ (c :: q.takeWhile (neB 60)) ≠ [] := by intro e; exact HRW.out (List.append_eq_nil_iff.1 e).1
            refine ⟨done, raw ++ (c :: q.takeWhile (neB 60)), a, k7, (c :: q).dropWhile (neB 60), D ++ [(p.1.more (c :: q.takeWhile (neB 60)) (k7), p.2)], RDx.out.mv M20.out (fun h => h.2.1 rfl), ?_, Mv.toExt XWx.out M20.out (fun x hx => hx.1), ?_, by omega, ?_, by first | omega | (simp; omega) | (rw [List.length_append, List.length_cons, List.length_nil]; omega), by first | omega | (simp; omega) | (rw [List.length_append]; omega)⟩
            · rw [opB_some hne]; exact AS20.out
            · rw [List.map_append, HDM.out, flush_some hne, List.map_cons, List.map_nil, HP1.out]; rfl
            · rw [← HLEX.out, HLXx.out, if_neg HRW.out]
end Go.Proofs.YtalaajbajgdglaaGreatDoor
namespace Go.Proofs.YtalaajbajgdglaaGreatDoor
open Go
end Go.Proofs.YtalaajbajgdglaaGreatDoor
namespace Go.Proofs.YtalaajbajgdglaaGreatDoor
open Go Go.RowKit Go.BigFrame
end Go.Proofs.YtalaajbajgdglaaGreatDoor
namespace Go.Proofs.YtalaajbajgdglaaGreatDoor
open Go
structure ZF where
  tag : Int
  attrs : List AttrB
  kids : List PN
def ZF.node (f : ZF) : PN := .mk f.tag f.attrs ⟨#[]⟩ f.kids
def ZF.put (f : ZF) (n : PN) : ZF := ⟨f.tag, f.attrs, f.kids ++ [n]⟩
abbrev ZS := List ZF
def pop1 : ZS → ZS
  | f :: g :: r => g.put f.node :: r
  | z => z
def popN : Nat → ZS → ZS
  | 0, z => z
  | n + 1, z => popN n (pop1 z)
def closeC (is stops : Int → Bool) : List Int → Nat
  | [] => 0
  | [_] => 0
  | t :: u :: r => if stops t && !is t then 0 else if is t then 1 else match closeC is stops (u :: r) with
    | 0 => 0
    | n + 1 => n + 2
def tagsZ (z : ZS) : List Int := z.map ZF.tag
def closeZ (is stops : Int → Bool) (z : ZS) : ZS := popN (closeC is stops (tagsZ z)) z
def boxT (x : Int) : Bool := clsT x == 2
def headT (x : Int) : Bool := decide (3 ≤ x) && decide (x ≤ 5)
def isPH (x : Int) : Bool := x == 2 || headT x
def stPH (x : Int) : Bool := boxT x || x == 9
def isLi (x : Int) : Bool := x == 9
def stLi (x : Int) : Bool := x == 7 || x == 8
def lineT (tag : Int) : Bool := clsT tag == 3 || clsT tag == 2
def aheadZ (tag : Int) (z : ZS) : ZS :=
  let z1 := if lineT tag then closeZ isPH stPH z else z
  if tag = 9 then closeZ isLi stLi z1 else z1
def roomB (cnt n : Nat) : Bool := decide (cnt < 2000) && decide (n ≤ 40)
structure BZ where
  z : ZS
  cnt : Nat
def BZ.add (b : BZ) (n : PN) : BZ := match b.z with
  | [] => b
  | f :: r => ⟨f.put n :: r, b.cnt + 1⟩
def lastText (l : List PN) : Option PN := match l.getLast? with
  | none => none
  | some k => if k.tag = 0 then some k else none
def textZ (s : List UInt8) (b : BZ) : BZ := match b.z with
  | [] => b
  | f :: r => if boxT f.tag && s.all blankB then b else match lastText f.kids with
    | some k => ⟨⟨f.tag, f.attrs, f.kids.dropLast ++ [.mk 0 k.attrs (bs (k.text.data.toList ++ s)) k.kids]⟩ :: r, b.cnt⟩
    | none => if roomB b.cnt b.z.length then b.add (.mk 0 [] (bs s) []) else b
def namesT : List (List UInt8 × Int) := [([100, 105, 118], 1), ([112], 2), ([104, 49], 3), ([104, 50], 4), ([104, 51], 5), ([98, 108, 111, 99, 107, 113, 117, 111, 116, 101], 6), ([117, 108], 7), ([111, 108], 8), ([108, 105], 9),
  ([97], 10), ([98], 11), ([115, 116, 114, 111, 110, 103], 11), ([105], 12), ([101, 109], 12), ([117], 13), ([105, 110, 115], 13), ([115], 14), ([115, 116, 114, 105, 107, 101], 14), ([100, 101, 108], 14), ([115, 112, 97, 110], 15), ([98, 114], 16)]
def findT (n : List UInt8) : Option Int := (namesT.find? (·.1 == n)).map Prod.snd
def openZ (tag : Int) (attrs : List AttrB) (b : BZ) : BZ :=
  if clsT tag = 5 then b.add (.mk tag attrs ⟨#[]⟩ []) else ⟨⟨tag, attrs, []⟩ :: b.z, b.cnt + 1⟩
def tokenZ (t : Tk) (b : BZ) : BZ :=
  if t.kind = 1 then textZ t.text b else match findT t.name with
  | none => b
  | some tag => if t.kind = 3 then ⟨closeZ (· == tag) (fun _ => false) b.z, b.cnt⟩
    else if roomB b.cnt (aheadZ tag b.z).length then openZ tag t.attrs ⟨aheadZ tag b.z, b.cnt⟩ else b
def startZ : BZ := ⟨[⟨1, [], []⟩], 1⟩
def runZ (l : List Tk) : BZ := l.foldl (fun b t => tokenZ t b) startZ
def popAll (z : ZS) : ZS := popN (z.length - 1) z
def topN (z : ZS) : PN := match popAll z with
  | [] => .mk 0 [] ⟨#[]⟩ []
  | f :: _ => f.node
def hostZ (l : List Tk) : PN := topN (runZ l).z

theorem closeC_lt (is stops : Int → Bool) : ∀ l : List Int, l ≠ [] → closeC is stops l < l.length
  | [], h => (h rfl).elim
  | [_], _ => by unfold closeC; simp
  | t :: u :: r, _ => by
    unfold closeC
    have ih := closeC_lt is stops (u :: r) (by simp)
    split
    · simp
    · split
      · simp
      · split
        · simp
        · rename_i n hn
          rw [hn] at ih
          simp only [List.length_cons] at ih ⊢
          omega
theorem pop1_len : ∀ z : ZS, (pop1 z).length = if 2 ≤ z.length then z.length - 1 else z.length
  | [] => rfl
  | [_] => rfl
  | f :: g :: r => by show (g.put f.node :: r).length = _; simp
theorem pop1_tags : ∀ z : ZS, 2 ≤ z.length → tagsZ (pop1 z) = (tagsZ z).drop 1
  | [], h => by simp at h
  | [_], h => by simp at h
  | f :: g :: r, _ => rfl
theorem popN_len : ∀ (n : Nat) (z : ZS), n < z.length → (popN n z).length = z.length - n
  | 0, z, _ => rfl
  | n + 1, z, h => by
    have h1 := pop1_len z
    rw [if_pos (show 2 ≤ z.length by omega)] at h1
    show (popN n (pop1 z)).length = _
    rw [popN_len n _ (by omega), h1]
    omega
theorem popN_tags : ∀ (n : Nat) (z : ZS), n < z.length → tagsZ (popN n z) = (tagsZ z).drop n
  | 0, z, _ => rfl
  | n + 1, z, h => by
    have h1 := pop1_len z
    rw [if_pos (show 2 ≤ z.length by omega)] at h1
    show tagsZ (popN n (pop1 z)) = _
    rw [popN_tags n _ (by omega), pop1_tags z (by omega), List.drop_drop, Nat.add_comm]
theorem closeZ_len (is stops : Int → Bool) (z : ZS) (h : z ≠ []) : (closeZ is stops z).length = z.length - closeC is stops (tagsZ z) ∧ closeC is stops (tagsZ z) < z.length := by
  have h1 := closeC_lt is stops (tagsZ z) (by unfold tagsZ; simpa using h)
  have h2 : (tagsZ z).length = z.length := by unfold tagsZ; simp
  rw [h2] at h1
  exact ⟨popN_len _ z h1, h1⟩
def aheadC (tag : Int) (l : List Int) : Nat :=
  let n := if lineT tag then closeC isPH stPH l else 0
  if tag = 9 then n + closeC isLi stLi (l.drop n) else n
theorem popN_add : ∀ (m n : Nat) (z : ZS), popN n (popN m z) = popN (m + n) z
  | 0, n, z => by rw [Nat.zero_add]; rfl
  | m + 1, n, z => by
    show popN n (popN m (pop1 z)) = _
    rw [popN_add m n (pop1 z), show m + 1 + n = (m + n) + 1 by omega]
    rfl
theorem aheadZ_eq (tag : Int) (z : ZS) (h : z ≠ []) : aheadZ tag z = popN (aheadC tag (tagsZ z)) z ∧ aheadC tag (tagsZ z) < z.length := by
  have hz : 0 < z.length := List.length_pos_iff.2 h
  unfold aheadZ aheadC
  dsimp only
  have a1 : (if lineT tag = true then closeZ isPH stPH z else z) = popN (if lineT tag = true then closeC isPH stPH (tagsZ z) else 0) z ∧ (if lineT tag = true then closeC isPH stPH (tagsZ z) else 0) < z.length := by
    split
    · exact ⟨rfl, (closeZ_len isPH stPH z h).2⟩
    · exact ⟨rfl, hz⟩
  obtain ⟨a2, a3⟩ := a1
  rw [a2]
  generalize (if lineT tag = true then closeC isPH stPH (tagsZ z) else 0) = n at a3 ⊢
  split
  · unfold closeZ
    rw [popN_tags n z a3, popN_add]
    have h1 := popN_len n z a3
    have h2 := closeC_lt isLi stLi ((tagsZ z).drop n) (by
      intro e
      have := congrArg List.length e
      unfold tagsZ at this
      simp at this
      omega)
    have h3 : (tagsZ z).length = z.length := by unfold tagsZ; simp
    rw [List.length_drop, h3] at h2
    exact ⟨rfl, by omega⟩
  · exact ⟨rfl, a3⟩
theorem BZ.add_ne {b : BZ} {n : PN} (h : b.z ≠ []) : (b.add n).z ≠ [] ∧ (b.add n).z.length = b.z.length ∧ (b.add n).cnt = b.cnt + 1 := by
  unfold BZ.add
  cases hz : b.z with
  | nil => exact (h hz).elim
  | cons f r => exact ⟨List.cons_ne_nil _ _, rfl, rfl⟩
end Go.Proofs.YtalaajbajgdglaaGreatDoor
namespace Go.Proofs.YtalaajbajgdglaaGreatDoor
open Go Go.RowKit Go.BigFrame We
def ptrV (q : Nat) : Value := .pointer (some ⟨q, 0, none⟩)
def elC (tag : Int) (av : Value) (text : ByteArray) (kv : Value) : Array Value := #[.int .i64 tag, av, .string text, .slice none 0 0, kv]
inductive El (g0 w : World) (S : Nat → Prop) : Nat → PN → Prop
  | mk {p : Nat} {tag : Int} {attrs : List AttrB} {text : ByteArray} {kids : List PN} {av kv : Value} (ps : List Nat)
      (hb : w.heap[p]? = some (.cells (elC tag av text kv) 51 (0, 0))) (hS : S p) (ha : RowP g0 (fun _ => True) 104 2 av attrs.length (attrCells attrs))
      (hr : RowP w S 48 1 kv (List.length ps) (List.map ptrV ps)) (hn : kids = [] → kv = .slice none 0 0) (hl : List.length ps = kids.length)
      (hk : ∀ (i : Nat) (q : Nat) (k : PN), ps[i]? = some q → kids[i]? = some k → El g0 w S q k) : El g0 w S p (.mk tag attrs text kids)
theorem El.mv {g0 w w' : World} {S K : Nat → Prop} (k : Mv K w w') (hK : ∀ g, S g → ¬ K g) {p : Nat} {n : PN} (h : El g0 w S p n) : El g0 w' S p n := by
  induction h with
  | mk ps hb hS ha hr hn hl _ ih => exact .mk ps (k.block hb (hK _ hS)) hS ha (hr.mv k hK) hn hl ih
theorem El.imp {g0 w : World} {S S' : Nat → Prop} (hS' : ∀ g, S g → S' g) {p : Nat} {n : PN} (h : El g0 w S p n) : El g0 w S' p n := by
  induction h with
  | mk ps hb hS ha hr hn hl _ ih => exact .mk ps hb (hS' _ hS) ha (hr.imp fun g _ hg => hS' g hg) hn hl ih
theorem El.open {g0 w : World} {S : Nat → Prop} {p : Nat} {tag : Int} {attrs : List AttrB} {text : ByteArray} {kids : List PN} (h : El g0 w S p (.mk tag attrs text kids)) :
    ∃ (av kv : Value) (ps : List Nat), w.heap[p]? = some (.cells (elC tag av text kv) 51 (0, 0)) ∧ S p ∧ RowP g0 (fun _ => True) 104 2 av attrs.length (attrCells attrs) ∧ RowP w S 48 1 kv ps.length (ps.map ptrV) ∧ (kids = [] → kv = .slice none 0 0) ∧ ps.length = kids.length ∧
      ∀ (i : Nat) (q : Nat) (k : PN), ps[i]? = some q → kids[i]? = some k → El g0 w S q k := by
  cases h with
  | mk ps hb hS ha hr hn hl hk => exact ⟨_, _, ps, hb, hS, ha, hr, hn, hl, hk⟩
theorem El.leaf {g0 w : World} {S : Nat → Prop} {p : Nat} {tag : Int} {attrs : List AttrB} {text : ByteArray} {av : Value}
    (hb : w.heap[p]? = some (.cells (elC tag av text (.slice none 0 0)) 51 (0, 0))) (hS : S p) (ha : RowP g0 (fun _ => True) 104 2 av attrs.length (attrCells attrs)) : El g0 w S p (.mk tag attrs text []) :=
  .mk [] hb hS ha ⟨rfl, .inl ⟨rfl, none, rfl⟩⟩ (fun _ => rfl) rfl fun i q k h => by simp at h

structure FrM where
  q : Nat
  f : ZF
  av : Value
  kv : Value
  ps : List Nat
def ptrs (l : List FrM) (j : Nat) (m : FrM) : List Nat := m.ps ++ (match l[j + 1]? with
  | some m' => [m'.q]
  | none => [])
structure BAt (g0 w : World) (own : Ow) (l : List FrM) : Prop where
  blk : ∀ (j : Nat) (m : FrM), l[j]? = some m → own m.q = some (j, 0) ∧ w.heap[m.q]? = some (.cells (elC m.f.tag m.av ⟨#[]⟩ m.kv) 51 (0, 0))
  row : ∀ (j : Nat) (m : FrM), l[j]? = some m → RowP w (fun g => own g = some (j, 1)) 48 1 m.kv (ptrs l j m).length ((ptrs l j m).map ptrV) ∧ (ptrs l j m = [] → m.kv = .slice none 0 0)
  kid : ∀ (j : Nat) (m : FrM) (i : Nat) (p : Nat) (n : PN), l[j]? = some m → m.ps[i]? = some p → m.f.kids[i]? = some n → El g0 w (fun g => own g = some (j, i + 2)) p n
  len : ∀ (j : Nat) (m : FrM), l[j]? = some m → m.ps.length = m.f.kids.length
  att : ∀ (j : Nat) (m : FrM), l[j]? = some m → RowP g0 (fun _ => True) 104 2 m.av m.f.attrs.length (attrCells m.f.attrs)
  low : ∀ g, own g ≠ none → g0.heap.size ≤ g ∧ g < w.heap.size
section
variable {g0 w w' : World} {own : Ow} {l : List FrM}
theorem BAt.mv (h : BAt g0 w own l) {K : Nat → Prop} (k : Mv K w w') (hK : ∀ g, own g ≠ none → ¬ K g) : BAt g0 w' own l where
  blk j m hj := ⟨(h.blk j m hj).1, k.block (h.blk j m hj).2 (hK _ (by rw [(h.blk j m hj).1]; simp))⟩
  row j m hj := ⟨(h.row j m hj).1.mv k fun g hg => hK g (by rw [hg]; simp), (h.row j m hj).2⟩
  kid j m i p n hj hp hn := (h.kid j m i p n hj hp hn).mv k fun g hg => hK g (by rw [hg]; simp)
  len := h.len
  att := h.att
  low g hg := ⟨(h.low g hg).1, Nat.lt_of_lt_of_le (h.low g hg).2 k.size⟩
theorem ptrs_last {l : List FrM} {m : FrM} {j : Nat} (hj : j + 1 = l.length) : ptrs l j m = m.ps := by
  unfold ptrs
  rw [List.getElem?_eq_none (by omega)]
  simp
def popOw (own : Ow) (j r : Nat) : Ow := fun g => match own g with
  | none => none
  | some (a, b) => if a = j + 1 then some (j, r + 2) else some (a, b)
theorem popOw_keep {own : Ow} {j r : Nat} {g : Nat} {a b : Nat} (h : own g = some (a, b)) (hne : a ≠ j + 1) : popOw own j r g = some (a, b) := by unfold popOw; rw [h]; simp only; rw [if_neg hne]
theorem popOw_turn {own : Ow} {j r : Nat} {g : Nat} {b : Nat} (h : own g = some (j + 1, b)) : popOw own j r g = some (j, r + 2) := by unfold popOw; rw [h]; simp
theorem popOw_none {own : Ow} {j r : Nat} {g : Nat} : popOw own j r g ≠ none ↔ own g ≠ none := by
  unfold popOw
  cases h : own g with
  | none => simp
  | some ab => obtain ⟨a, b⟩ := ab; simp only; split <;> simp
theorem BAt.pop {l : List FrM} {m f : FrM} (h : BAt g0 w own (l ++ [m, f])) :
    BAt g0 w (popOw own l.length m.ps.length) (l ++ [⟨m.q, m.f.put f.f.node, m.av, m.kv, m.ps ++ [f.q]⟩]) := by
  have hm : (l ++ [m, f])[l.length]? = some m := by simp
  have hf : (l ++ [m, f])[l.length + 1]? = some f := by simp
  have hlen := h.len _ _ hm
  have hold : ∀ j x, j < l.length → ((l ++ [⟨m.q, m.f.put f.f.node, m.av, m.kv, m.ps ++ [f.q]⟩])[j]? = some x ↔ (l ++ [m, f])[j]? = some x) := fun j x hj => by
    rw [List.getElem?_append_left hj, List.getElem?_append_left hj]
  have hpt : ∀ j x, j < l.length → ptrs (l ++ [⟨m.q, m.f.put f.f.node, m.av, m.kv, m.ps ++ [f.q]⟩]) j x = ptrs (l ++ [m, f]) j x := fun j x hj => by
    unfold ptrs
    rcases Nat.lt_or_ge (j + 1) l.length with h1 | h1
    · rw [List.getElem?_append_left h1, List.getElem?_append_left h1]
    · have hj1 : j + 1 = l.length := by omega
      rw [hj1]
      simp
  have hnew : (l ++ [(⟨m.q, m.f.put f.f.node, m.av, m.kv, m.ps ++ [f.q]⟩ : FrM)])[l.length]? = some ⟨m.q, m.f.put f.f.node, m.av, m.kv, m.ps ++ [f.q]⟩ := by simp
  have hsplit : ∀ j x, (l ++ [(⟨m.q, m.f.put f.f.node, m.av, m.kv, m.ps ++ [f.q]⟩ : FrM)])[j]? = some x → (j < l.length ∧ (l ++ [m, f])[j]? = some x) ∨ (j = l.length ∧ x = ⟨m.q, m.f.put f.f.node, m.av, m.kv, m.ps ++ [f.q]⟩) := fun j x hj => by
    rcases Nat.lt_trichotomy j l.length with h1 | h1 | h1
    · exact .inl ⟨h1, (hold j x h1).1 hj⟩
    · subst h1
      rw [hnew] at hj
      exact .inr ⟨rfl, (Option.some.inj hj).symm⟩
    · rw [List.getElem?_eq_none (by simp; omega)] at hj
      cases hj
  have hmp : ptrs (l ++ [m, f]) l.length m = m.ps ++ [f.q] := by unfold ptrs; rw [hf]
  have hmp2 : ptrs (l ++ [⟨m.q, m.f.put f.f.node, m.av, m.kv, m.ps ++ [f.q]⟩]) l.length ⟨m.q, m.f.put f.f.node, m.av, m.kv, m.ps ++ [f.q]⟩ = m.ps ++ [f.q] := by
    rw [ptrs_last (by simp)]
  refine ⟨fun j x hj => ?_, fun j x hj => ?_, fun j x i p n hj hp hn => ?_, fun j x hj => ?_, fun j x hj => ?_, fun g hg => h.low g (popOw_none.1 hg)⟩
  · rcases hsplit j x hj with ⟨h1, h2⟩ | ⟨rfl, rfl⟩
    · exact ⟨popOw_keep (h.blk j x h2).1 (by omega), (h.blk j x h2).2⟩
    · exact ⟨popOw_keep (h.blk _ m hm).1 (by omega), (h.blk _ m hm).2⟩
  · rcases hsplit j x hj with ⟨h1, h2⟩ | ⟨rfl, rfl⟩
    · rw [hpt j x h1]
      exact ⟨(h.row j x h2).1.imp fun g _ hg => popOw_keep hg (by omega), (h.row j x h2).2⟩
    · rw [hmp2]
      have hr := h.row _ m hm
      rw [hmp] at hr
      exact ⟨hr.1.imp fun g _ hg => popOw_keep hg (by omega), fun e => by simp at e⟩
  · rcases hsplit j x hj with ⟨h1, h2⟩ | ⟨rfl, rfl⟩
    · exact (h.kid j x i p n h2 hp hn).imp fun g hg => popOw_keep hg (by omega)
    · have hn2 : (m.f.kids ++ [f.f.node])[i]? = some n := hn
      have hp2 : (m.ps ++ [f.q])[i]? = some p := hp
      rcases Nat.lt_or_ge i m.ps.length with h1 | h1
      · rw [List.getElem?_append_left h1] at hp2
        rw [List.getElem?_append_left (by omega)] at hn2
        exact (h.kid _ m i p n hm hp2 hn2).imp fun g hg => popOw_keep hg (by omega)
      · obtain rfl : i = m.ps.length := by
          have := (List.getElem?_eq_some_iff.1 hp2).1
          simp only [List.length_append, List.length_singleton] at this
          omega
        rw [List.getElem?_append_right (Nat.le_refl _), Nat.sub_self] at hp2
        rw [hlen, List.getElem?_append_right (Nat.le_refl _), Nat.sub_self] at hn2
        cases hp2
        cases hn2
        have hfb := h.blk _ f hf
        have hfr := h.row _ f hf
        rw [ptrs_last (by simp)] at hfr
        refine .mk f.ps hfb.2 (popOw_turn hfb.1) (h.att _ f hf) (hfr.1.imp fun g _ hg => popOw_turn hg) (fun e => hfr.2 ?_) (h.len _ f hf) fun i q k hq hk => (h.kid _ f i q k hf hq hk).imp fun g hg => popOw_turn hg
        have := h.len _ f hf
        rw [e] at this
        exact List.eq_nil_of_length_eq_zero this
  · rcases hsplit j x hj with ⟨h1, h2⟩ | ⟨rfl, rfl⟩
    · exact h.len j x h2
    · show (m.ps ++ [f.q]).length = (m.f.kids ++ [f.f.node]).length
      simp [hlen]
  · rcases hsplit j x hj with ⟨h1, h2⟩ | ⟨rfl, rfl⟩
    · exact h.att j x h2
    · exact h.att _ m hm
end
def zOf (l : List FrM) : ZS := (l.map FrM.f).reverse
theorem zOf_len (l : List FrM) : (zOf l).length = l.length := by unfold zOf; simp
theorem zOf_snoc (l : List FrM) (m : FrM) : zOf (l ++ [m]) = m.f :: zOf l := by unfold zOf; simp
theorem BAt.popN {g0 w : World} : ∀ (n : Nat) (own : Ow) (l : List FrM), BAt g0 w own l → n < l.length → ∃ own' l', BAt g0 w own' l' ∧ (∀ g, own' g ≠ none ↔ own g ≠ none) ∧ zOf l' = popN n (zOf l) ∧ l'.map FrM.q = (l.map FrM.q).take (l.length - n)
  | 0, own, l, h, _ => ⟨own, l, h, fun _ => Iff.rfl, rfl, by rw [Nat.sub_zero, List.take_of_length_le (by simp)]⟩
  | n + 1, own, l, h, hn => by
    obtain ⟨r, f, rfl⟩ : ∃ r f, l = r ++ [f] := ⟨l.dropLast, l.getLast (by intro e; rw [e] at hn; simp at hn), (List.dropLast_concat_getLast _).symm⟩
    have hr : r ≠ [] := by intro e; rw [e] at hn; simp at hn
    obtain ⟨s, m, rfl⟩ : ∃ s m, r = s ++ [m] := ⟨r.dropLast, r.getLast hr, (List.dropLast_concat_getLast _).symm⟩
    have e1 : s ++ [m] ++ [f] = s ++ [m, f] := by simp
    rw [e1] at h hn ⊢
    have h2 := h.pop
    have hn2 : n < (s ++ [(⟨m.q, m.f.put f.f.node, m.av, m.kv, m.ps ++ [f.q]⟩ : FrM)]).length := by simp at hn ⊢; omega
    obtain ⟨own', l', a1, a2, a3, a4⟩ := BAt.popN n _ _ h2 hn2
    refine ⟨own', l', a1, fun g => (a2 g).trans popOw_none, ?_, ?_⟩
    · rw [a3, zOf_snoc, ← e1, zOf_snoc, zOf_snoc]
      rfl
    · have em : (s ++ [(⟨m.q, m.f.put f.f.node, m.av, m.kv, m.ps ++ [f.q]⟩ : FrM)]).map FrM.q = s.map FrM.q ++ [m.q] := by simp
      have ef : (s ++ [m, f]).map FrM.q = (s.map FrM.q ++ [m.q]) ++ [f.q] := by simp
      have e2 : (s ++ [(⟨m.q, m.f.put f.f.node, m.av, m.kv, m.ps ++ [f.q]⟩ : FrM)]).length - n = (s ++ [m, f]).length - (n + 1) := by simp only [List.length_append, List.length_cons, List.length_nil]; omega
      rw [a4, em, ef, e2]
      exact (List.take_append_of_le_length (by simp only [List.length_append, List.length_cons, List.length_nil, List.length_map]; omega)).symm
structure BB (g0 w : World) (F : Nat → Prop) (bb : Nat) (b : BZ) : Prop where
  out : ∃ (own : Ow) (l : List FrM) (ov : Value) (ob : Option Nat), BAt g0 w own l ∧ w.heap[bb]? = some (.cells #[ov, .int .i64 (b.cnt : Int)] 53 (0, 0)) ∧ own bb = none ∧
    RowP w (fun g => ob = some g) 48 1 ov l.length (l.map fun m => ptrV m.q) ∧ (∀ g, ob = some g → own g = none ∧ g ≠ bb ∧ g0.heap.size ≤ g ∧ g < w.heap.size ∧ F g) ∧ b.z = zOf l ∧ l ≠ [] ∧ (∀ g, own g ≠ none → F g) ∧ F bb ∧ g0.heap.size ≤ bb
  old : Ext g0 w
end Go.Proofs.YtalaajbajgdglaaGreatDoor
namespace Go.Proofs.YtalaajbajgdglaaGreatDoor
open Go Go.RowKit Go.BigFrame Go.Maps Go.WideMaps Go.IntWalk
theorem intN {j : Nat} (h : j ≤ 1000000) : Value.int .i64 (wrap64 ((j : Int) + 1)) = .int .i64 ((j + 1 : Nat) : Int) := by rw [wrap64_in _ (by omega)]; rfl
theorem growOf {w w' : World} {row : Option Nat} (x : Ext w w') : w.grownBy w' row := ⟨Below.os x, Below.tape x, Below.output x, Ext.size x, fun k hk _ => Below.block x k hk⟩
def headZ (t : Int) : Int := if 3 ≤ t ∧ t ≤ 5 then t - 2 else 0
theorem Heading_any (t : Int) (w : World) : Calls Tryz.prog 104 #[.int .i64 t] w (RVal (.int .i64 (headZ t)) w) := by
  have x := Ext.refl w
  have h : t = 3 ∨ t = 4 ∨ t = 5 ∨ t < 3 ∨ 5 < t := by omega
  rcases h with rfl | rfl | rfl | h | h
  · go_enter Tryz.func104, Tryz.ntmps104
    go_wp2
    go_ret
    exact ⟨rfl, x⟩
  · go_enter Tryz.func104, Tryz.ntmps104
    go_wp2
    go_ret
    exact ⟨rfl, x⟩
  · go_enter Tryz.func104, Tryz.ntmps104
    go_wp2
    go_ret
    exact ⟨rfl, x⟩
  · have e : headZ t = 0 := if_neg (by omega)
    rw [e]
    have d1 : decide ((3 : Int) ≤ t) = false := decide_eq_false (by omega)
    clear e
    go_enter Tryz.func104, Tryz.ntmps104
    go_wp2
    go_ret
    exact ⟨rfl, x⟩
  · have e : headZ t = 0 := if_neg (by omega)
    rw [e]
    have d1 : decide ((3 : Int) ≤ t) = true := decide_eq_true (by omega)
    have d2 : decide (t ≤ (5 : Int)) = false := decide_eq_false (by omega)
    clear e
    go_enter Tryz.func104, Tryz.ntmps104
    go_wp2
    go_ret
    exact ⟨rfl, x⟩
theorem low1_any (c : UInt8) (hc : c.toNat < 65 ∨ 90 < c.toNat) (w : World) : Calls Tryz.prog 145 #[.int .i32 (c.toNat : Int)] w (RVal (.int .i32 (c.toNat : Int)) w) := by
  have x := Ext.refl w
  rcases hc with h | h
  · have d1 : decide ((65 : Int) ≤ (c.toNat : Int)) = false := decide_eq_false (by omega)
    go_enter Tryz.func145, Tryz.ntmps145
    go_wp2
    go_ret
    exact ⟨rfl, x⟩
  · have d1 : decide ((65 : Int) ≤ (c.toNat : Int)) = true := decide_eq_true (by omega)
    have d2 : decide ((c.toNat : Int) ≤ (90 : Int)) = false := decide_eq_false (by omega)
    go_enter Tryz.func145, Tryz.ntmps145
    go_wp2
    go_ret
    exact ⟨rfl, x⟩
theorem cap_none (b : Nat) (w : World) (p : Option Addr) (n cap : Nat) (c1 : w.cell? ⟨b, 1, none⟩ = some (.slice p n cap)) : Calls Tryz.prog 176 #[.pointer (some ⟨b, 0, none⟩)] w (RVal (.int .i64 cap) w) := by
  have x := Ext.refl w
  go_enter Tryz.func176, Tryz.ntmps176
  go_wp2
  go_ret
  exact ⟨rfl, x⟩
theorem map_low (s : ByteArray) (hs : ∀ c ∈ s.data.toList, c.toNat < 128 ∧ (c.toNat < 65 ∨ 90 < c.toNat)) (w : World) :
    Calls Tryz.prog 144 #[.func (.func 145) #[] #[], .string s] w (RVal (.string s) w) := by
  have HS := qh hs
  have eg : ∀ args w, (callFunc 145 args).run Tryz.prog w = .ok (.enter 145 args) w := enters_of Tryz.func145 (by kernel_rfl) rfl
  clear hs
  go_enter Tryz.func144, Tryz.ntmps144
  go_wp2_with fail
  go_loopg [1] s.size (fun gk s1 wr => s1 = .string s ∧ ∃ pos : Nat, wr.heap[w.heap.size]? = some (.cells #[.pointer none, .slice none 0 0] 82 (0, 0)) ∧ wr.heap[w.heap.size + 1]? = some (.stringIter s pos) ∧ Ext w wr ∧ s.size ≤ pos + gk ∧ pos ≤ s.size)
  case atStart =>
    refine ⟨rfl, 0, ?_, ?_, ((Ext.refl w).alloc _).alloc _, by omega, by omega⟩
    · have h1 := heap_alloc_new w (.cells #[.pointer none, .slice none 0 0] 82)
      exact (Below.heap_alloc _ _ _ (by simp)).trans h1
    · have := World.iter_heap (w.alloc (.cells #[.pointer none, .slice none 0 0] 82)) s 0
      simpa using this
  case round =>
    obtain ⟨rfl, pos, hb, hit, hx, hg, hp⟩ := hrel
    by_cases hlt : pos < s.size
    · obtain ⟨g', rfl⟩ : ∃ g', gk = g' + 1 := ⟨gk - 1, by omega⟩
      have hnx : ∀ ty, (Instr.next (.pointer (some ⟨w.heap.size + 1, 0, none⟩)) true ty).run Tryz.prog wr = _ := fun ty => Lib.run_next_any_at wr (w.heap.size + 1) s pos ty hit hlt
      obtain ⟨c, hc⟩ : ∃ c, s[pos]'hlt = c := ⟨_, rfl⟩
      have hcc := HS.out c (by rw [← hc]; exact byte_mem.2 ⟨pos, hlt, rfl⟩)
      have hdl : Utf8.decode s pos = (c.toNat, 1) := by
        have h1 := Lib.decodeL_drop s pos
        have h2 : s.data.toList.drop pos = c :: s.data.toList.drop (pos + 1) := by rw [← hc]; exact List.drop_eq_getElem_cons (by simpa using hlt)
        rw [h2, Lib.decodeL_ascii _ _ hcc.1] at h1
        exact h1.symm
      rw [hdl] at hnx
      have hit2 := Lib.iterAt_heap wr (w.heap.size + 1) s pos (pos + 1) hit
      have hx2 := Lib.below_iterAt hx (k := w.heap.size + 1) (by omega) s (pos + 1)
      have hb2 : (wr.iterAt (w.heap.size + 1) s (pos + 1)).heap[w.heap.size]? = _ := (Lib.iterAt_other wr (w.heap.size + 1) w.heap.size s (pos + 1) (by omega)).trans hb
      obtain ⟨W, hWd⟩ : ∃ W, wr.iterAt (w.heap.size + 1) s (pos + 1) = W := ⟨_, rfl⟩
      rw [hWd] at hnx hit2 hx2 hb2
      have c5 : (((c.toNat : Nat) : Int) != 65533) = true := by simp; omega
      have HC := qh hcc.2
      have HX2 := qh hx2
      have HIT := qh hit2
      have HB2 := qh hb2
      clear hit hx hb hWd hc hcc hdl hx2 hit2 hb2
      go_wp2_with (go_at_fn 145; refine (low1_any c HC.out _).mono ?_)
      rintro e W1 ⟨rfl, x1⟩
      go_wp2_with fail
      go_roundg g'
      case measure => omega
      case rel => exact ⟨rfl, pos + 1, Ext.block x1 HB2.out, Ext.block x1 HIT.out, (show Ext w W from HX2.out).trans x1, by omega, hlt⟩
    · obtain rfl : pos = s.size := by omega
      have hnx : ∀ ty, (Instr.next (.pointer (some ⟨w.heap.size + 1, 0, none⟩)) true ty).run Tryz.prog wr = _ := fun ty => Lib.run_next_end_at wr (w.heap.size + 1) s s.size ty hit (by omega)
      have c1 := cellOf hb (i := 1) (v := .slice none 0 0) rfl
      have HX := qh hx
      clear hit hx hb
      go_wp2_with (go_at_call 176; refine (cap_none _ _ none 0 0 c1).mono ?_)
      rintro e W1 ⟨rfl, x1⟩
      go_wp2_with fail
      go_ret
      exact ⟨rfl, HX.out.trans x1⟩
theorem low_any (s : ByteArray) (hs : ∀ c ∈ s.data.toList, c.toNat < 128 ∧ (c.toNat < 65 ∨ 90 < c.toNat)) (w : World) : Calls Tryz.prog 96 #[.string s] w (RVal (.string s) w) := by
  have HM := qh (fun W => map_low s hs W)
  clear hs
  go_enter Tryz.func96, Tryz.ntmps96
  go_wp2_with (go_at_call 144; refine (HM.out _).mono ?_)
  rintro e W1 ⟨rfl, x1⟩
  go_wp2_with fail
  go_ret
  exact ⟨rfl, x1⟩

def nmsT : List (List (List UInt8)) := [[], [[100, 105, 118]], [[112]], [[104, 49]], [[104, 50]], [[104, 51]], [[98, 108, 111, 99, 107, 113, 117, 111, 116, 101]], [[117, 108]], [[111, 108]], [[108, 105]], [[97]], [[98], [115, 116, 114, 111, 110, 103]], [[105], [101, 109]], [[117], [105, 110, 115]], [[115], [115, 116, 114, 105, 107, 101], [100, 101, 108]], [[115, 112, 97, 110]], [[98, 114]]]
def nmT (k : Nat) : List (List UInt8) := (nmsT[k]?).getD []
def TabF (w : World) (e : Ending) (w' : World) : Prop := ∃ (T : Array Value) (nv : Nat → Value), e = .returned (.agg T) ∧ Ext w w' ∧ ∀ k : Nat, k < 17 → (∀ W : World, (Instr.index 172 (.agg T) (.int .i64 (k : Int))).run Tryz.prog W = .ok (.agg #[nv k, .int .i64 (clsT k)]) W) ∧
  ((nmT k = [] ∧ nv k = .slice none 0 0) ∨ ∃ g, nv k = .slice (some ⟨g, 0, none⟩) (nmT k).length (nmT k).length ∧ ∀ (j : Nat) s, (nmT k)[j]? = some s → w'.cell? ⟨g, j, none⟩ = some (.string (bs s)))
theorem table_rows (w : World) : Calls Tryz.prog 143 #[] w (TabF w) := by
  refine (table_any w).mono ?_
  rintro e w2 ⟨B, g1, g2, g3, g4, g5, g6, g7, g8, g9, g10, g11, g12, g13, g14, g15, g16, rfl, HH, HX⟩
  have C := fun (g : Nat) (cs : Array Value) (hm) (j : Nat) (v : Value) (hv : cs[j]? = some v) => cellOf (w := w2) (HH (g, cs) hm).2 hv
  refine ⟨_, fun k => match k with
    | 0 => .slice none 0 0
    | 1 => .slice (some ⟨g1, 0, none⟩) 1 1
    | 2 => .slice (some ⟨g2, 0, none⟩) 1 1
    | 3 => .slice (some ⟨g3, 0, none⟩) 1 1
    | 4 => .slice (some ⟨g4, 0, none⟩) 1 1
    | 5 => .slice (some ⟨g5, 0, none⟩) 1 1
    | 6 => .slice (some ⟨g6, 0, none⟩) 1 1
    | 7 => .slice (some ⟨g7, 0, none⟩) 1 1
    | 8 => .slice (some ⟨g8, 0, none⟩) 1 1
    | 9 => .slice (some ⟨g9, 0, none⟩) 1 1
    | 10 => .slice (some ⟨g10, 0, none⟩) 1 1
    | 11 => .slice (some ⟨g11, 0, none⟩) 2 2
    | 12 => .slice (some ⟨g12, 0, none⟩) 2 2
    | 13 => .slice (some ⟨g13, 0, none⟩) 2 2
    | 14 => .slice (some ⟨g14, 0, none⟩) 3 3
    | 15 => .slice (some ⟨g15, 0, none⟩) 1 1
    | _ => .slice (some ⟨g16, 0, none⟩) 1 1
    , rfl, HX, fun k hk => ?_⟩
  have h : k = 0 ∨ k = 1 ∨ k = 2 ∨ k = 3 ∨ k = 4 ∨ k = 5 ∨ k = 6 ∨ k = 7 ∨ k = 8 ∨ k = 9 ∨ k = 10 ∨ k = 11 ∨ k = 12 ∨ k = 13 ∨ k = 14 ∨ k = 15 ∨ k = 16 := by omega
  clear hk
  rcases h with rfl | rfl | rfl | rfl | rfl | rfl | rfl | rfl | rfl | rfl | rfl | rfl | rfl | rfl | rfl | rfl | rfl
  · exact ⟨fun _ => by kernel_rfl, .inl ⟨rfl, rfl⟩⟩
  · refine ⟨fun _ => by kernel_rfl, .inr ⟨g1, rfl, fun j s hj => ?_⟩⟩
    rcases j with _ | j
    · cases hj; exact C g1 #[.string ⟨#[100, 105, 118]⟩] (by simp) 0 _ rfl
    · exact absurd (List.getElem?_eq_some_iff.1 hj).1 (by show ¬ j + 1 < 1; omega)
  · refine ⟨fun _ => by kernel_rfl, .inr ⟨g2, rfl, fun j s hj => ?_⟩⟩
    rcases j with _ | j
    · cases hj; exact C g2 #[.string ⟨#[112]⟩] (by simp) 0 _ rfl
    · exact absurd (List.getElem?_eq_some_iff.1 hj).1 (by show ¬ j + 1 < 1; omega)
  · refine ⟨fun _ => by kernel_rfl, .inr ⟨g3, rfl, fun j s hj => ?_⟩⟩
    rcases j with _ | j
    · cases hj; exact C g3 #[.string ⟨#[104, 49]⟩] (by simp) 0 _ rfl
    · exact absurd (List.getElem?_eq_some_iff.1 hj).1 (by show ¬ j + 1 < 1; omega)
  · refine ⟨fun _ => by kernel_rfl, .inr ⟨g4, rfl, fun j s hj => ?_⟩⟩
    rcases j with _ | j
    · cases hj; exact C g4 #[.string ⟨#[104, 50]⟩] (by simp) 0 _ rfl
    · exact absurd (List.getElem?_eq_some_iff.1 hj).1 (by show ¬ j + 1 < 1; omega)
  · refine ⟨fun _ => by kernel_rfl, .inr ⟨g5, rfl, fun j s hj => ?_⟩⟩
    rcases j with _ | j
    · cases hj; exact C g5 #[.string ⟨#[104, 51]⟩] (by simp) 0 _ rfl
    · exact absurd (List.getElem?_eq_some_iff.1 hj).1 (by show ¬ j + 1 < 1; omega)
  · refine ⟨fun _ => by kernel_rfl, .inr ⟨g6, rfl, fun j s hj => ?_⟩⟩
    rcases j with _ | j
    · cases hj; exact C g6 #[.string ⟨#[98, 108, 111, 99, 107, 113, 117, 111, 116, 101]⟩] (by simp) 0 _ rfl
    · exact absurd (List.getElem?_eq_some_iff.1 hj).1 (by show ¬ j + 1 < 1; omega)
  · refine ⟨fun _ => by kernel_rfl, .inr ⟨g7, rfl, fun j s hj => ?_⟩⟩
    rcases j with _ | j
    · cases hj; exact C g7 #[.string ⟨#[117, 108]⟩] (by simp) 0 _ rfl
    · exact absurd (List.getElem?_eq_some_iff.1 hj).1 (by show ¬ j + 1 < 1; omega)
  · refine ⟨fun _ => by kernel_rfl, .inr ⟨g8, rfl, fun j s hj => ?_⟩⟩
    rcases j with _ | j
    · cases hj; exact C g8 #[.string ⟨#[111, 108]⟩] (by simp) 0 _ rfl
    · exact absurd (List.getElem?_eq_some_iff.1 hj).1 (by show ¬ j + 1 < 1; omega)
  · refine ⟨fun _ => by kernel_rfl, .inr ⟨g9, rfl, fun j s hj => ?_⟩⟩
    rcases j with _ | j
    · cases hj; exact C g9 #[.string ⟨#[108, 105]⟩] (by simp) 0 _ rfl
    · exact absurd (List.getElem?_eq_some_iff.1 hj).1 (by show ¬ j + 1 < 1; omega)
  · refine ⟨fun _ => by kernel_rfl, .inr ⟨g10, rfl, fun j s hj => ?_⟩⟩
    rcases j with _ | j
    · cases hj; exact C g10 #[.string ⟨#[97]⟩] (by simp) 0 _ rfl
    · exact absurd (List.getElem?_eq_some_iff.1 hj).1 (by show ¬ j + 1 < 1; omega)
  · refine ⟨fun _ => by kernel_rfl, .inr ⟨g11, rfl, fun j s hj => ?_⟩⟩
    rcases j with _ | j
    · cases hj; exact C g11 #[.string ⟨#[98]⟩, .string ⟨#[115, 116, 114, 111, 110, 103]⟩] (by simp) 0 _ rfl
    rcases j with _ | j
    · cases hj; exact C g11 #[.string ⟨#[98]⟩, .string ⟨#[115, 116, 114, 111, 110, 103]⟩] (by simp) 1 _ rfl
    · exact absurd (List.getElem?_eq_some_iff.1 hj).1 (by show ¬ j + 2 < 2; omega)
  · refine ⟨fun _ => by kernel_rfl, .inr ⟨g12, rfl, fun j s hj => ?_⟩⟩
    rcases j with _ | j
    · cases hj; exact C g12 #[.string ⟨#[105]⟩, .string ⟨#[101, 109]⟩] (by simp) 0 _ rfl
    rcases j with _ | j
    · cases hj; exact C g12 #[.string ⟨#[105]⟩, .string ⟨#[101, 109]⟩] (by simp) 1 _ rfl
    · exact absurd (List.getElem?_eq_some_iff.1 hj).1 (by show ¬ j + 2 < 2; omega)
  · refine ⟨fun _ => by kernel_rfl, .inr ⟨g13, rfl, fun j s hj => ?_⟩⟩
    rcases j with _ | j
    · cases hj; exact C g13 #[.string ⟨#[117]⟩, .string ⟨#[105, 110, 115]⟩] (by simp) 0 _ rfl
    rcases j with _ | j
    · cases hj; exact C g13 #[.string ⟨#[117]⟩, .string ⟨#[105, 110, 115]⟩] (by simp) 1 _ rfl
    · exact absurd (List.getElem?_eq_some_iff.1 hj).1 (by show ¬ j + 2 < 2; omega)
  · refine ⟨fun _ => by kernel_rfl, .inr ⟨g14, rfl, fun j s hj => ?_⟩⟩
    rcases j with _ | j
    · cases hj; exact C g14 #[.string ⟨#[115]⟩, .string ⟨#[115, 116, 114, 105, 107, 101]⟩, .string ⟨#[100, 101, 108]⟩] (by simp) 0 _ rfl
    rcases j with _ | j
    · cases hj; exact C g14 #[.string ⟨#[115]⟩, .string ⟨#[115, 116, 114, 105, 107, 101]⟩, .string ⟨#[100, 101, 108]⟩] (by simp) 1 _ rfl
    rcases j with _ | j
    · cases hj; exact C g14 #[.string ⟨#[115]⟩, .string ⟨#[115, 116, 114, 105, 107, 101]⟩, .string ⟨#[100, 101, 108]⟩] (by simp) 2 _ rfl
    · exact absurd (List.getElem?_eq_some_iff.1 hj).1 (by show ¬ j + 3 < 3; omega)
  · refine ⟨fun _ => by kernel_rfl, .inr ⟨g15, rfl, fun j s hj => ?_⟩⟩
    rcases j with _ | j
    · cases hj; exact C g15 #[.string ⟨#[115, 112, 97, 110]⟩] (by simp) 0 _ rfl
    · exact absurd (List.getElem?_eq_some_iff.1 hj).1 (by show ¬ j + 1 < 1; omega)
  · refine ⟨fun _ => by kernel_rfl, .inr ⟨g16, rfl, fun j s hj => ?_⟩⟩
    rcases j with _ | j
    · cases hj; exact C g16 #[.string ⟨#[98, 114]⟩] (by simp) 0 _ rfl
    · exact absurd (List.getElem?_eq_some_iff.1 hj).1 (by show ¬ j + 1 < 1; omega)
def putsD (L : List (List UInt8 × Int)) : DataW Unit := L.foldl (fun d p => d.put (.string p.1) (.lit (.int .i64 p.2))) (.map [])
theorem snoc_rec {α : Type} {P : List α → Prop} (h0 : P []) (h1 : ∀ l a, P l → P (l ++ [a])) : ∀ l, P l := fun l => by
  have h : ∀ r : List α, P r.reverse := by
    intro r
    induction r with
    | nil => exact h0
    | cons a r ih => rw [List.reverse_cons]; exact h1 _ _ ih
  have := h l.reverse
  rwa [List.reverse_reverse] at this
theorem putsD_snoc (L : List (List UInt8 × Int)) (p : List UInt8 × Int) : putsD (L ++ [p]) = (putsD L).put (.string p.1) (.lit (.int .i64 p.2)) := by unfold putsD; rw [List.foldl_append]; rfl
theorem putsD_map (L : List (List UInt8 × Int)) : IsMap (putsD L) := by
  revert L
  exact snoc_rec isMap_empty fun l p ih => by rw [putsD_snoc]; exact ih.put _ _
theorem putsD_find (L : List (List UInt8 × Int)) (hn : (L.map Prod.fst).Nodup) (n : List UInt8) (z : Int) :
    has (putsD L) (.string n) = (L.find? (·.1 == n)).isSome ∧ (putsD L).atKey (.string n) (.lit (.int .i64 z)) = .lit (.int .i64 (((L.find? (·.1 == n)).map Prod.snd).getD z)) := by
  revert L
  refine snoc_rec (fun _ => ⟨rfl, rfl⟩) fun l p ih hn => ?_
  · rw [List.map_append] at hn
    obtain ⟨h1, h2, h3⟩ := List.nodup_append.1 hn
    obtain ⟨i1, i2⟩ := ih h1
    rw [putsD_snoc, List.find?_append]
    by_cases hp : p.1 = n
    · have hnone : l.find? (·.1 == n) = none := by
        rw [List.find?_eq_none]
        intro q hq he
        have he : q.1 = n := by simpa using he
        exact h3 q.1 (List.mem_map.2 ⟨q, hq, rfl⟩) p.1 (by simp) (by rw [he, hp])
      rw [hnone]
      subst hp
      rw [has_put_same (putsD_map l) (show WideAt.IsKeyLit (Lit.string p.1) from trivial), atKey_put_same (putsD_map l) (show WideAt.IsKeyLit (Lit.string p.1) from trivial)]
      simp
    · have hne : (Lit.string n) ≠ Lit.string p.1 := fun e => hp (by injection e with e; exact e.symm)
      rw [has_put_other hne, atKey_put_other hne, i1, i2]
      have hq : ([p].find? (·.1 == n)) = none := by simp [hp]
      rw [hq]
      simp
def firstT (k : Nat) : List (List UInt8 × Int) := (List.range k).flatMap fun i => (nmT i).map fun n => (n, (i : Int))
theorem firstT_all : firstT 17 = namesT := by decide +kernel
theorem firstT_succ (k : Nat) : firstT (k + 1) = firstT k ++ (nmT k).map fun n => (n, (k : Int)) := by unfold firstT; rw [List.range_succ, List.flatMap_append]; simp
theorem firstT_len (k : Nat) (hk : k ≤ 17) : (firstT k).length ≤ 100 := by
  have h : ∀ k : Fin 18, (firstT k.val).length ≤ 100 := by decide +kernel
  exact h ⟨k, by omega⟩
theorem nmT_len (k : Nat) (hk : k < 17) : (nmT k).length ≤ 3 := by
  have h : ∀ k : Fin 17, (nmT k.val).length ≤ 3 := by decide +kernel
  exact h ⟨k, by omega⟩
theorem nmT_size (k : Nat) (hk : k < 17) {s : List UInt8} (hs : s ∈ nmT k) : s.length ≤ 20 := by
  have h : ∀ k : Fin 17, ∀ s ∈ nmT k.val, s.length ≤ 20 := by decide +kernel
  exact h ⟨k, hk⟩ s hs
def TagNamesIs (w : World) (e : Ending) (w' : World) : Prop := ∃ B, e = .returned (.map (some B)) ∧ Ext w w' ∧ w'.ownsMap Tryz.prog 9 (plainElem (H := Unit) Tryz.prog 3) B 200 (putsD namesT)
theorem names_any (w : World) : Calls Tryz.prog 95 #[] w (TagNamesIs w) := by
  have hmm := @run_makeMap Tryz.prog
  have x0 := (Ext.refl w).alloc (.map #[] 0)
  have o0 := World.ownsMap_made w Tryz.prog 9 (plainElem (H := Unit) Tryz.prog 3)
  go_enter Tryz.func95, Tryz.ntmps95
  go_upto_region 2 with fail
  obtain ⟨w1, hw1⟩ : ∃ w1 : World, w1 = w.alloc (.map #[] 0) := ⟨_, rfl⟩
  rw [← hw1] at x0 o0 ⊢
  clear hw1
  obtain ⟨B, hB⟩ : ∃ B, w.heap.size = B := ⟨_, rfl⟩
  have HB := qh (show w.heap.size ≤ B from hB ▸ Nat.le_refl _)
  rw [hB] at o0 ⊢
  clear hB
  have X0 := qh x0
  have O0 := qh o0
  clear x0 o0
  go_wp2_with (go_at_call 143; refine (table_rows _).mono ?_)
  rintro e w2 ⟨T, nv, rfl, x2, hT⟩
  have O2 : Hid (w2.ownsMap Tryz.prog 9 (plainElem (H := Unit) Tryz.prog 3) B 0 (.map [])) := qh (O0.out.kept (row := none) (growOf x2) (by simp))
  have X2 := qh (X0.out.trans x2)
  have HT := qh hT
  have HRW : Hid (∀ k, k < 17 → ∃ a, nv k = .slice a (nmT k).length (nmT k).length ∧ ∀ (j : Nat) s, (nmT k)[j]? = some s → ∃ g, a = some ⟨g, 0, none⟩ ∧ ∀ W, w2.grownBy W (some B) → W.cell? ⟨g, j, none⟩ = some (.string (bs s))) := qh fun k hk => by
    rcases (HT.out k hk).2 with ⟨h1, h2⟩ | ⟨g, h1, h2⟩
    · exact ⟨none, by rw [h1, h2]; rfl, fun j s hj => by rw [h1] at hj; simp at hj⟩
    · refine ⟨_, h1, fun j s hj => ⟨g, rfl, fun W hW => hW.cell (h2 j s hj) ?_⟩⟩
      have hc := h2 j s hj
      intro e
      have e2 : g = B := by injection e
      obtain ⟨es, clock, hb, _⟩ := O2.out
      rw [e2] at hc
      simp [World.cell?, hb] at hc
  clear x2 hT
  go_wp2_with fail
  go_loopg [8] 17 (fun gk s8 wr => ∃ k : Nat, s8 = .int .i64 (k : Int) ∧ k + gk = 17 ∧ Hid (wr.ownsMap Tryz.prog 9 (plainElem (H := Unit) Tryz.prog 3) B (firstT k).length (putsD (firstT k)) ∧ w2.grownBy wr (some B) ∧ Ext w wr))
  case atStart => exact ⟨0, rfl, rfl, qh ⟨O2.out, World.grownBy.refl _ _, X2.out⟩⟩
  case round =>
    obtain ⟨k, rfl, hk, hr⟩ := hrel
    by_cases hlt : k < 17
    · obtain ⟨g', rfl⟩ : ∃ g', gk = g' + 1 := ⟨gk - 1, by omega⟩
      have d1 : decide ((k : Int) < 17) = true := decide_eq_true (by omega)
      have d1n : decide (k < 17) = true := decide_eq_true hlt
      have hix := (HT.out k hlt).1
      obtain ⟨c, hc⟩ : ∃ c, clsT (k : Int) = c := ⟨_, rfl⟩
      rw [hc] at hix
      clear hc
      obtain ⟨a, hv, hcell⟩ := HRW.out k hlt
      rw [hv] at hix
      clear hv
      have HL := qh hlt
      have HK := qh hk
      have HCELL := qh hcell
      obtain ⟨n, hn⟩ : ∃ n, (nmT k).length = n := ⟨_, rfl⟩
      rw [hn] at hix
      have HN := qh hn
      clear hlt hk hcell hn
      have hb := heap_alloc_new wr (.cells #[.slice none 0 0, .int .i64 0] 150)
      have c0 := cellOf hb (i := 0) (v := .slice none 0 0) rfl
      have c1 := cellOf hb (i := 1) (v := .int .i64 0) rfl
      have f0 := freeOf hb 0
      have f1 := freeOf hb 1
      have hb2 := qh (box_row (v := .slice a n n) (u := .int .i64 c) hb)
      clear hb
      go_upto_region 5 with fail
      clear c0 c1 f0 f1 hb2
      have hb2 := qh (heap_alloc_new wr (.cells #[.slice a n n, .int .i64 c] 150))
      have HR2 : Hid ((wr.alloc (.cells #[.slice a n n, .int .i64 c] 150)).ownsMap Tryz.prog 9 (plainElem (H := Unit) Tryz.prog 3) B (firstT k).length (putsD (firstT k)) ∧ w2.grownBy (wr.alloc (.cells #[.slice a n n, .int .i64 c] 150)) (some B) ∧ Ext w (wr.alloc (.cells #[.slice a n n, .int .i64 c] 150))) := qh (by
        obtain ⟨h1, h2, h3⟩ := hr.out
        have hlt := h1.lt
        have hxx : Ext wr (wr.alloc (.cells #[.slice a n n, .int .i64 c] 150)) := (Ext.refl wr).alloc _
        exact ⟨h1.kept (row := none) (growOf hxx) (by simp), h2.trans (growOf hxx), h3.trans hxx⟩)
      generalize wr.alloc (.cells #[.slice a n n, .int .i64 c] 150) = wA at hb2 HR2 ⊢
      have cA := cellOf hb2.out (i := 0) (v := .slice a n n) rfl
      clear hb2 hr
      go_wp2_with fail
      go_loopg [15] n (fun gj s15 wr => ∃ j : Nat, s15 = .int .i64 (j : Int) ∧ j + gj = n ∧ Hid (wr.ownsMap Tryz.prog 9 (plainElem (H := Unit) Tryz.prog 3) B ((firstT k).length + j) (putsD (firstT k ++ ((nmT k).take j).map fun n => (n, (k : Int)))) ∧ w2.grownBy wr (some B) ∧ Ext w wr))
      case atStart => exact ⟨0, rfl, by omega, qh ⟨by simpa using HR2.out.1, HR2.out.2.1, HR2.out.2.2⟩⟩
      case round =>
        obtain ⟨j, rfl, hj, hr⟩ := hrel
        by_cases hjn : j < n
        · obtain ⟨gj', rfl⟩ : ∃ g', gk = g' + 1 := ⟨gk - 1, by omega⟩
          have e1 : decide ((j : Int) < (n : Int)) = true := decide_eq_true (by omega)
          have e2 : decide (j < n) = true := decide_eq_true hjn
          obtain ⟨s, hs⟩ : ∃ s, (nmT k)[j]? = some s := ⟨(nmT k)[j]'(by have := HN.out; omega), by simp⟩
          obtain ⟨g, rfl, hg⟩ := HCELL.out j s hs
          have hcj := hg _ hr.out.2.1
          have hown := hr.out.1
          have HSZ := qh (nmT_size k HL.out (List.mem_of_getElem? hs))
          have hkey : keyOf Tryz.prog 9 (.string (bs s)) = some (.string s) := by
            have h := keyOf_string_mk (P := Tryz.prog) (k := 9) Tryz.underlying9 (s := bs s) (by have h := HSZ.out; show s.toArray.size ≤ _; rw [List.size_toArray]; unfold maxLen; omega)
            simpa [bs] using h
          have hroom : (firstT k).length + j < maxLen := by
            have h1 := firstT_len k (by have := HL.out; omega)
            have h2 := nmT_len k HL.out
            have h3 := HN.out
            unfold maxLen
            omega
          have HG := qh hr.out.2.1
          have HX := qh hr.out.2.2
          have HS := qh hs
          have HJ := qh (And.intro hj hjn)
          clear hs hg hr hj
          have wfk : (Lit.int .i64 (k : Int)).wf = true := WalkArith.wf_i64 (by have := HL.out; omega)
          go_wp2_with (at_mapUpdate; refine wpList_mapUpdate_own _ rfl _ _ _ 141 rfl 9 3 (string_keyed Tryz.underlying9) Tryz.underlying141 _ B _ _ rfl hown hroom _ _ _ rfl rfl hkey _ [] (plainElem_int Tryz.underlying3 wfk) ?_; intro w1 hown1 hgrow1)
          have HF : Hid (w1.ownsMap Tryz.prog 9 (plainElem (H := Unit) Tryz.prog 3) B ((firstT k).length + (j + 1)) (putsD (firstT k ++ ((nmT k).take (j + 1)).map fun n => (n, (k : Int)))) ∧ w2.grownBy w1 (some B) ∧ Ext w w1) := qh (by
            refine ⟨?_, HG.out.trans hgrow1, ?_⟩
            · have e : (nmT k).take (j + 1) = (nmT k).take j ++ [s] := by rw [List.take_add_one, HS.out]; rfl
              rw [e, List.map_append, ← List.append_assoc]
              show w1.ownsMap _ _ _ _ _ (putsD (_ ++ [(s, (k : Int))]))
              rw [putsD_snoc]
              exact hown1
            · exact HX.out.grown hgrow1 (fun k e => by cases e; exact HB.out))
          clear hown1 hgrow1 hown
          go_wp2_with fail
          go_roundg gj'
          case measure => omega
          case rel => exact ⟨j + 1, intN (by have h1 := HJ.out.2; have h2 := HN.out; have h3 := nmT_len k HL.out; omega), by have := HJ.out.1; omega, HF⟩
        · have hje : j = n := by omega
          have e1 : decide ((j : Int) < (n : Int)) = false := decide_eq_false (by omega)
          have e2 : decide (j < n) = false := decide_eq_false hjn
          have HR3 : Hid (wr.ownsMap Tryz.prog 9 (plainElem (H := Unit) Tryz.prog 3) B (firstT (k + 1)).length (putsD (firstT (k + 1))) ∧ w2.grownBy wr (some B) ∧ Ext w wr) := qh (by
            refine ⟨?_, hr.out.2⟩
            have h1 := hr.out.1
            rw [hje, ← HN.out, List.take_length] at h1
            rw [firstT_succ, List.length_append, List.length_map]
            exact h1)
          clear hr hj hje hjn
          go_wp2_with fail
          go_roundg g'
          case measure => omega
          case rel => exact ⟨k + 1, intN (by have h1 := HL.out; omega), by have := HK.out; omega, HR3⟩
    · have hke : k = 17 := by omega
      subst hke
      have HF := qh hr.out
      clear hr hk hlt
      go_wp2_with fail
      go_ret
      refine ⟨B, rfl, HF.out.2.2, ?_⟩
      have h := HF.out.1
      rw [firstT_all] at h
      exact h.mono (by decide)
def FindIs (n : List UInt8) (w : World) (e : Ending) (w' : World) : Prop := e = .returned (.tuple #[.int .i64 ((findT n).getD 0), .bool (findT n).isSome]) ∧ Ext w w'
theorem Find_any (n : List UInt8) (hn : ∀ c ∈ n, c.toNat < 128 ∧ (c.toNat < 65 ∨ 90 < c.toNat)) (hl : n.length ≤ 100000) (w : World) : Calls Tryz.prog 56 #[.string (bs n)] w (FindIs n w) := by
  have HL := qh (fun W => low_any (bs n) (by simpa [bs] using hn) W)
  have HF := qh (putsD_find namesT (by decide +kernel) n 0)
  have hkey : keyOf Tryz.prog 9 (.string (bs n)) = some (.string n) := by
    have h := keyOf_string_mk (P := Tryz.prog) (k := 9) Tryz.underlying9 (s := bs n) (by show n.toArray.size ≤ _; rw [List.size_toArray]; unfold maxLen; omega)
    simpa [bs] using h
  have HFT : Hid (∀ c : Int, (putsD namesT).atKey (.string n) (.lit (.int .i64 0)) = .lit (.int .i64 c) → c = (findT n).getD 0 ∧ has (putsD namesT) (.string n) = (findT n).isSome) := qh fun c hc => by
    obtain ⟨h1, h2⟩ := HF.out
    rw [h2] at hc
    have e : c = ((namesT.find? (·.1 == n)).map Prod.snd).getD 0 := by injection hc with hc; injection hc with _ hc; exact hc.symm
    exact ⟨e, by rw [h1]; unfold findT; rw [Option.isSome_map]⟩
  unfold FindIs
  obtain ⟨z, hz⟩ : ∃ z, (findT n).getD 0 = z := ⟨_, rfl⟩
  obtain ⟨ok, hok⟩ : ∃ ok, (findT n).isSome = ok := ⟨_, rfl⟩
  rw [hz, hok] at HFT ⊢
  clear hn hl hz hok HF
  go_enter Tryz.func56, Tryz.ntmps56
  go_wp2_with (first
    | (go_at_call 95; refine (names_any _).mono ?_; rintro e w2 ⟨B, rfl, x2, hown⟩)
    | (go_at_call 96; refine (HL.out _).mono ?_; rintro e w3 ⟨rfl, x3⟩; replace hown := hown.kept (row := none) (growOf x3) (by simp))
    | (at_lookup; refine wpList_lookup_own_ok_int _ rfl _ _ 141 rfl 9 3 .i64 (string_keyed Tryz.underlying9) Tryz.underlying141 Tryz.underlying3 (Tryz.zeroValue3 _) B 200 _ rfl hown _ _ rfl hkey ?_; intro c hat hwc; obtain ⟨rfl, hhas⟩ := HFT.out c hat; rw [hhas]; clear hhas hat hwc))
  go_ret2
  exact ⟨rfl, x2.trans x3⟩
end Go.Proofs.YtalaajbajgdglaaGreatDoor
namespace Go.Proofs.YtalaajbajgdglaaGreatDoor
open Go Go.RowKit Go.BigFrame
def IsF (p : Int → Bool) (fv : Value) (w : World) : Prop :=
  ∃ (g : Nat) (lb : Array Value), fv = .func (.func g) #[] lb ∧ (∀ args w, (callFunc g args).run Tryz.prog w = .ok (.enter g args) w) ∧
    ∀ (W : World) (x : Int), Ext w W → Calls Tryz.prog g (#[.int .i64 x] ++ lb) W (RBool (p x) W)
theorem box_any (x : Int) (w : World) : Calls Tryz.prog 102 #[.int .i64 x] w (RBool (boxT x) w) := by
  unfold boxT
  have HC := qh (fun W => Class_any W x)
  obtain ⟨c, hc⟩ : ∃ c, clsT x = c := ⟨_, rfl⟩
  rw [hc] at HC ⊢
  clear hc
  go_enter Tryz.func102, Tryz.ntmps102
  go_wp2_with (go_at_call 64; refine (HC.out _).mono ?_)
  rintro e w1 ⟨rfl, x1⟩
  go_wp2_with fail
  go_ret
  exact ⟨rfl, x1⟩
theorem isPH_any (x : Int) (w : World) : Calls Tryz.prog 103 #[.int .i64 x] w (RBool (isPH x) w) := by
  have x0 := Ext.refl w
  by_cases h2 : x = 2
  · subst h2
    go_enter Tryz.func103, Tryz.ntmps103
    go_wp2
    go_ret
    exact ⟨rfl, x0⟩
  · have d1 : (x == 2) = false := by simpa using h2
    have HC := qh (fun W => Heading_any x W)
    have e : isPH x = decide (0 < headZ x) := by
      unfold isPH headT headZ
      rw [d1]
      by_cases h : 3 ≤ x ∧ x ≤ 5
      · rw [if_pos h, decide_eq_true h.1, decide_eq_true h.2, decide_eq_true (by omega)]; rfl
      · rw [if_neg h]
        by_cases h3 : 3 ≤ x
        · rw [decide_eq_true h3, decide_eq_false (show ¬ x ≤ 5 by omega)]; rfl
        · rw [decide_eq_false h3]; rfl
    rw [e]
    obtain ⟨c, hc⟩ : ∃ c, headZ x = c := ⟨_, rfl⟩
    rw [hc] at HC ⊢
    clear hc e h2
    go_enter Tryz.func103, Tryz.ntmps103
    go_wp2_with (go_at_call 104; refine (HC.out _).mono ?_)
    rintro e w1 ⟨rfl, x1⟩
    go_wp2_with fail
    go_ret
    exact ⟨rfl, x1⟩
theorem stPH_any (x : Int) (b : Nat) (w : World) (hb : w.cell? ⟨b, 0, none⟩ = some (.func (.func 102) #[] #[])) : Calls Tryz.prog 105 #[.int .i64 x, .pointer (some ⟨b, 0, none⟩)] w (RBool (stPH x) w) := by
  have HC := qh (fun W => box_any x W)
  have eg : ∀ args w, (callFunc 102 args).run Tryz.prog w = .ok (.enter 102 args) w := enters_of Tryz.func102 (by kernel_rfl) rfl
  cases hl : boxT x with
  | true =>
    have e : stPH x = true := by unfold stPH; rw [hl]; rfl
    rw [hl] at HC
    rw [e]
    clear e hl
    go_enter Tryz.func105, Tryz.ntmps105
    go_wp2_with (go_at_fn 102; refine (HC.out _).mono ?_)
    rintro e w1 ⟨rfl, x1⟩
    go_wp2_with fail
    go_ret
    exact ⟨rfl, x1⟩
  | false =>
    have e : stPH x = (x == 9) := by unfold stPH; rw [hl]; rfl
    rw [hl] at HC
    rw [e]
    clear e hl
    go_enter Tryz.func105, Tryz.ntmps105
    go_wp2_with (go_at_fn 102; refine (HC.out _).mono ?_)
    rintro e w1 ⟨rfl, x1⟩
    go_wp2_with fail
    go_ret
    exact ⟨rfl, x1⟩
theorem isLi_any (x : Int) (w : World) : Calls Tryz.prog 106 #[.int .i64 x] w (RBool (isLi x) w) := by
  have x0 := Ext.refl w
  unfold isLi
  go_enter Tryz.func106, Tryz.ntmps106
  go_wp2
  go_ret
  exact ⟨rfl, x0⟩
theorem stLi_any (x : Int) (w : World) : Calls Tryz.prog 107 #[.int .i64 x] w (RBool (stLi x) w) := by
  have x0 := Ext.refl w
  by_cases h : x = 7
  · subst h
    go_enter Tryz.func107, Tryz.ntmps107
    go_wp2
    go_ret
    exact ⟨rfl, x0⟩
  · have d1 : (x == 7) = false := by simpa using h
    have e : stLi x = (x == 8) := by unfold stLi; rw [d1]; rfl
    rw [e]
    clear e h
    go_enter Tryz.func107, Tryz.ntmps107
    go_wp2
    go_ret
    exact ⟨rfl, x0⟩
theorem tok1_any (x tag : Int) (b : Nat) (w : World) (hb : w.cell? ⟨b, 0, none⟩ = some (.int .i64 tag)) : Calls Tryz.prog 59 #[.int .i64 x, .pointer (some ⟨b, 0, none⟩)] w (RBool (x == tag) w) := by
  have x0 := Ext.refl w
  go_enter Tryz.func59, Tryz.ntmps59
  go_wp2
  go_ret
  exact ⟨rfl, x0⟩
theorem tok2_any (x : Int) (w : World) : Calls Tryz.prog 60 #[.int .i64 x] w (RBool false w) := by
  have x0 := Ext.refl w
  go_enter Tryz.func60, Tryz.ntmps60
  go_wp2
  go_ret
  exact ⟨rfl, x0⟩
theorem fn_PH (w : World) : IsF isPH (.func (.func 103) #[] #[]) w := ⟨_, _, rfl, enters_of Tryz.func103 (by kernel_rfl) rfl, fun W x _ => isPH_any x W⟩
theorem fn_stPH {w : World} {b : Nat} (hb : w.cell? ⟨b, 0, none⟩ = some (.func (.func 102) #[] #[])) : IsF stPH (.func (.func 105) #[] #[.pointer (some ⟨b, 0, none⟩)]) w :=
  ⟨_, _, rfl, enters_of Tryz.func105 (by kernel_rfl) rfl, fun W x hx => stPH_any x b W (hx.cell hb)⟩
theorem fn_Li (w : World) : IsF isLi (.func (.func 106) #[] #[]) w := ⟨_, _, rfl, enters_of Tryz.func106 (by kernel_rfl) rfl, fun W x _ => isLi_any x W⟩
theorem fn_stLi (w : World) : IsF stLi (.func (.func 107) #[] #[]) w := ⟨_, _, rfl, enters_of Tryz.func107 (by kernel_rfl) rfl, fun W x _ => stLi_any x W⟩
theorem fn_tok {w : World} {b : Nat} {tag : Int} (hb : w.cell? ⟨b, 0, none⟩ = some (.int .i64 tag)) : IsF (· == tag) (.func (.func 59) #[] #[.pointer (some ⟨b, 0, none⟩)]) w :=
  ⟨_, _, rfl, enters_of Tryz.func59 (by kernel_rfl) rfl, fun W x hx => tok1_any x tag b W (hx.cell hb)⟩
theorem fn_none (w : World) : IsF (fun _ => false) (.func (.func 60) #[] #[]) w := ⟨_, _, rfl, enters_of Tryz.func60 (by kernel_rfl) rfl, fun W x _ => tok2_any x W⟩
end Go.Proofs.YtalaajbajgdglaaGreatDoor
namespace Go.Proofs.YtalaajbajgdglaaGreatDoor
open Go Go.RowKit Go.BigFrame Go.Shelf We
attribute [local go_sem] Oper.semAt_some

section
variable {F : Fence} {n : Nat} {P : Program}
theorem wpIn_inRound (hro : F.round = none) (l : Nat) {o : Oper} {a : Act} {w : World} {K K' : Act → World → Prop} {Q : Exit → Act → World → Prop} (hd : ∀ c, o.op ≠ .defer c) (hKK : ∀ a w, K a w → K' a w) (h : o.wpIn F n P a w K Q) : o.wpIn (F.inRound l) n P a w K' Q := by
  have h := Oper.wpIn_mono hKK h
  unfold Oper.wpIn at h ⊢
  rw [hro, Oper.semAt_none] at h
  rw [show (F.inRound l).round = some l from rfl, Oper.semAt_some l _ o hd]
  exact h
theorem wpAnyIn_inRound (hro : F.round = none) (l : Nat) {md : Region.Mode} {ops : Array Oper} {Q : Exit → Act → World → Prop} (hd : ∀ (i : Nat) (o : Oper), ops[i]? = some o → ∀ c, o.op ≠ .defer c) : ∀ (fuel : Nat) (listed : Array Bool) (a : Act) (w : World),
    wpAnyIn F n P md ops Q fuel listed a w → wpAnyIn (F.inRound l) n P md ops Q fuel listed a w
  | 0, _, _, _, h => h
  | fuel + 1, listed, a, w, h => ⟨h.1, fun i hi => by
    have h2 := h.2 i hi
    unfold wpOpIn at h2 ⊢
    cases ho : ops[i]? with
    | none => rw [ho] at h2; exact wpAnyIn_inRound hro l hd fuel _ a w h2
    | some o =>
      rw [ho] at h2
      simp only at h2 ⊢
      split at h2
      · rename_i hw
        rw [if_pos hw]
        exact wpIn_inRound hro l (hd i o ho) (fun a w h => wpAnyIn_inRound hro l hd fuel _ a w h) h2
      · rename_i hw
        rw [if_neg hw]
        exact ⟨h2.1, wpAnyIn_inRound hro l hd fuel _ _ w h2.2⟩⟩
def noDefer (o : Oper) : Bool := match o.op with | .defer _ => false | _ => true
theorem noDefer_ne {o : Oper} (h : noDefer o = true) : ∀ c, o.op ≠ .defer c := fun c e => by unfold noDefer at h; rw [e] at h; cases h
theorem wpIn_region_round {l id : Nat} {Q : Exit → Act → World → Prop} {a : Act} {w : World} {ops : List Oper} (hro : F.round = none) (hm : P.follows .mixedOrders = true) (hB : Region.lexB .any ops.toArray = true) (hd : ops.all noDefer = true)
    (h : wpQuietIn F n P ops.toArray (fun w' => ∃ u : ExtOf w, w' = u.val) (fun a' => ∀ w', (∃ u : ExtOf w, w' = u.val) → Q .normal a' w') ops a) : (Code.region id ops.toArray true).wpIn (F.inRound l) n P Q a w := by
  simp only [Region.lexB, Bool.and_eq_true] at hB
  refine wpIn_region_any hm (wpAnyIn_inRound hro l (fun i o ho => noDefer_ne (List.all_eq_true.1 hd o (by rw [List.getElem?_toArray] at ho; exact List.mem_of_getElem? ho))) _ _ _ _ (wpAnyIn_of_quiet (C := fun w' => ∃ u : ExtOf w, w' = u.val) (Q := fun a' => ∀ w', (∃ u : ExtOf w, w' = u.val) → Q .normal a' w') hro (fun _ w' hw' h => h w' hw') _ _ _ _ ⟨⟨w.drew, (Ext.refl w).drew⟩, rfl⟩ ?_))
  have := wpAnyQIn_lex (F := F) (n := n) (C := fun w' => ∃ u : ExtOf w, w' = u.val) (md := .any) hB.1 ops 0 (Array.replicate ops.toArray.size false) a (by simp) (by simpa using hB.2) h
  simpa using this
theorem wide_fn (f : FuncId) : Fence.wide.fn f = True := rfl
theorem inExtIn {f : FuncId} {args : Array Value} {w : World} {u : ExtOf w} {v : Value} (h : CallsIn F n P f args u.val fun e w' => e = .returned v ∧ Ext u.val w') :
    CallsIn F n P f args u.val fun e w' => e = .returned v ∧ ∃ u' : ExtOf w, w' = u'.val :=
  h.mono fun _ w' hh => ⟨hh.1, ⟨w', u.ext.trans hh.2⟩, rfl⟩
end

abbrev AX (qs : List Nat) (tags : List Int) := { x : Nat × Nat × Int // qs[x.1]? = some x.2.1 ∧ tags[x.1]? = some x.2.2 }
def axs {qs : List Nat} {tags : List Int} (x : AX qs tags) : Array Value := #[.int .i64 (x.1.1 : Int), .pointer (some ⟨x.1.2.1, 0, none⟩)]
def backX (qs : List Nat) (tags : List Int) (h : tags.length = qs.length) : List (AX qs tags) := List.ofFn fun k : Fin qs.length => ⟨(qs.length - 1 - k.val, qs[qs.length - 1 - k.val]'(by have := k.isLt; omega), tags[qs.length - 1 - k.val]'(by have := k.isLt; omega)), by have := k.isLt; exact ⟨List.getElem?_eq_getElem _, List.getElem?_eq_getElem _⟩⟩
theorem backX_len {qs : List Nat} {tags : List Int} (h : tags.length = qs.length) : (backX qs tags h).length = qs.length := by unfold backX; simp
theorem backX_get {qs : List Nat} {tags : List Int} (h : tags.length = qs.length) {k : Nat} (hk : k < qs.length) : ∃ x, (backX qs tags h)[k]? = some x ∧ x.1.1 = qs.length - 1 - k := by
  have h1 : k < (backX qs tags h).length := by rw [backX_len]; exact hk
  exact ⟨(backX qs tags h)[k]'h1, List.getElem?_eq_getElem h1, by simp [backX]⟩
theorem take_get {α : Type} {L : List α} {k : Nat} {x : α} (h : L[k]? = some x) : L.take (k + 1) = L.take k ++ [x] := by rw [List.take_add_one, h]; rfl
theorem back1_in (qs : List Nat) (tags : List Int) (ht : tags.length = qs.length) (hq : qs.length ≤ 60000) (n : Nat) (hn : 1 ≤ n) (l Bs n₀ g cap : Nat) (hg : g < n₀) (hB : Bs < n₀) (J Jx : List (AX qs tags) → World → Prop)
    (hY : ∀ pre x W, J pre W → pre.length < qs.length → YieldAt Fence.wide (n - 1) Tryz.prog l (axs x) W fun e W' =>
      (e = .returned (.bool true) ∧ J (pre ++ [x]) W' ∧ Below n₀ W W') ∨ (e = .returned (.bool false) ∧ Jx (pre ++ [x]) W'))
    (W : World) (hBs : W.cell? ⟨Bs, 0, none⟩ = some (.slice (some ⟨g, 0, none⟩) qs.length cap)) (hc : ∀ (j : Nat) q, qs[j]? = some q → W.cell? ⟨g, j, none⟩ = some (ptrV q)) (h0 : J [] W) :
    CallsIn Fence.wide n Tryz.prog 153 #[.func (.yield l) #[] #[], .pointer (some ⟨Bs, 0, none⟩)] W fun e W' => (∃ v, e = .returned v) ∧
      ((∃ ys, ys = backX qs tags ht ∧ J ys W') ∨ (∃ pre, (∃ k, k ≤ qs.length ∧ pre = (backX qs tags ht).take k) ∧ Jx pre W')) := by
  obtain ⟨N, hN⟩ : ∃ N, qs.length = N := ⟨_, rfl⟩
  rw [hN] at hBs hq
  refine callsIn_of_wp Tryz.func153 rfl trivial ?_ rfl
  simp only [Tryz.ntmps153, List.size_toArray, List.length_cons, List.length_nil, Nat.reduceAdd, Nat.reduceSub, Array.replicate_succ, Array.replicate_zero, List.push_toArray, List.append_toArray, List.nil_append, List.cons_append]
  gi_wp2
  gi_loopw [3] (fun i wr => ∃ k : Nat, k ≤ N ∧ i = .int .i64 ((N : Int) - 1 - (k : Int)) ∧ J ((backX qs tags ht).take k) wr ∧ Below n₀ W wr)
    (fun i _ => (intOf i + 1).toNat)
  case atStart => exact ⟨0, Nat.zero_le _, by simp, h0, Below.refl _ _⟩
  case round =>
    obtain ⟨k, hk, rfl, hJs, hnx⟩ := hrel
    have hcs : wr.cell? ⟨Bs, 0, none⟩ = some (.slice (some ⟨g, 0, none⟩) N cap) := (hnx.cell (p := ⟨Bs, 0, none⟩) hB).trans hBs
    by_cases hlt : k < N
    · obtain ⟨x, hx, hx1⟩ := backX_get ht (k := k) (by omega)
      have hxq := x.2.1
      obtain ⟨fn, tmps, assign, body, hy, hR⟩ := hY _ x wr hJs (by rw [List.length_take, backX_len]; omega)
      have hcx : wr.cell? ⟨g, x.1.1, none⟩ = some (ptrV x.1.2.1) := (hnx.cell (p := ⟨g, x.1.1, none⟩) hg).trans (hc _ _ hxq)
      have hix : (x.1.1 : Int) = (N : Int) - 1 - (k : Int) := by rw [hx1]; omega
      obtain ⟨i, hi⟩ : ∃ i : Nat, x.1.1 = i := ⟨_, rfl⟩
      obtain ⟨q, hqq⟩ : ∃ q : Nat, x.1.2.1 = q := ⟨_, rfl⟩
      unfold axs at hy
      rw [hi, hqq] at hy hcx
      rw [hi] at hix
      have HX := qh hx
      have HNX := qh hnx
      rw [← hix]
      have d0 : decide ((0 : Int) ≤ (i : Int)) = true := decide_eq_true (by omega)
      have hiN : i < N := by omega
      have HI := qh (And.intro hix hiN)
      have HJS := qh hJs
      clear hx hx1 hxq hnx hi hqq hix hJs
      unfold ptrV at hcx
      gi_wp2
      refine hR.mono ?_
      rintro e W3 (⟨rfl, hJ3, hk3⟩ | ⟨rfl, hJx3⟩)
      · gi_wp2
        go_roundw
        case rel => exact ⟨k + 1, by omega, by have := HI.out.1; first | (congr 1; done) | (congr 1; omega), by rw [take_get HX.out]; exact hJ3, HNX.out.trans hk3⟩
        case measure => have := HI.out.1; (first | (simp [intOf]; done) | (simp [intOf]; omega))
      · gi_wp2
        refine bodyPost_ret (results_none rfl _ _ _) rfl ?_
        exact ⟨⟨_, rfl⟩, .inr ⟨_, ⟨k + 1, by omega, (take_get HX.out).symm⟩, hJx3⟩⟩
    · obtain rfl : k = N := by omega
      have d0 : decide ((0 : Int) ≤ (k : Int) - 1 - (k : Int)) = false := decide_eq_false (by omega)
      gi_wp2
      go_end0
      exact ⟨⟨_, rfl⟩, .inl ⟨(backX qs tags ht).take k, List.take_of_length_le (by rw [backX_len]; omega), hJs⟩⟩
theorem backward_any (a : Option Addr) (len cap : Nat) (w : World) :
    Calls Tryz.prog 100 #[.slice a len cap] w fun e w' => e = .returned (.func (.func 153) #[] #[.pointer (some ⟨w.heap.size, 0, none⟩)]) ∧ w' = w.alloc (.cells #[.slice a len cap] 49) := by
  go_enter Tryz.func100, Tryz.ntmps100
  go_wp2
  go_ret
  exact ⟨rfl, rfl⟩
attribute [local go_sem] Oper.semAt_some
attribute [local simp] wide_fn

structure OpenV (w : World) (bb g cap : Nat) (cnt : Value) (qs : List Nat) (tags : List Int) : Prop where
  blk : w.heap[bb]? = some (.cells #[.slice (some ⟨g, 0, none⟩) qs.length cap, cnt] 53 (0, 0))
  row : ∀ (j : Nat) q, qs[j]? = some q → w.cell? ⟨g, j, none⟩ = some (ptrV q)
  tag : ∀ (j : Nat) q t, qs[j]? = some q → tags[j]? = some t → w.cell? ⟨q, 0, none⟩ = some (.int .i64 t)
  len : tags.length = qs.length
  pos : 0 < qs.length
  most : qs.length ≤ 60000
  capl : qs.length ≤ cap
  one : cnt.oneCell' = true
  ne : g ≠ bb ∧ g < w.heap.size ∧ bb < w.heap.size
  neq : ∀ (j : Nat) q, qs[j]? = some q → q ≠ bb
def RClose (w : World) (bb g n cap : Nat) (cnt : Value) (e : Ending) (w' : World) : Prop := e = .returned (.tuple #[]) ∧ Mv (· = bb) w w' ∧ w'.heap[bb]? = some (.cells #[.slice (some ⟨g, 0, none⟩) n cap, cnt] 53 (0, 0))
theorem OpenV.closed {w w' : World} {bb g cap n : Nat} {cnt : Value} {qs : List Nat} {tags : List Int} (h : OpenV w bb g cap cnt qs tags) (k : Mv (· = bb) w w') (hb : w'.heap[bb]? = some (.cells #[.slice (some ⟨g, 0, none⟩) n cap, cnt] 53 (0, 0))) (hn : 0 < n) (hn2 : n ≤ qs.length) :
    OpenV w' bb g cap cnt (qs.take n) (tags.take n) where
  blk := by rw [List.length_take, Nat.min_eq_left hn2]; exact hb
  row j q hj := by
    rw [List.getElem?_take] at hj
    split at hj
    · exact k.cell (h.row j q hj) h.ne.1
    · cases hj
  tag j q t hj ht := by
    rw [List.getElem?_take] at hj ht
    split at hj
    · rename_i hlt
      rw [if_pos hlt] at ht
      exact k.cell (h.tag j q t hj ht) (h.neq j q hj)
    · cases hj
  len := by rw [List.length_take, List.length_take, h.len]
  pos := by rw [List.length_take]; have := h.pos; omega
  most := by rw [List.length_take]; have := h.most; omega
  capl := by rw [List.length_take]; have := h.capl; omega
  one := h.one
  ne := ⟨h.ne.1, Nat.lt_of_lt_of_le h.ne.2.1 k.size, Nat.lt_of_lt_of_le h.ne.2.2 k.size⟩
  neq j q hj := by
    rw [List.getElem?_take] at hj
    split at hj
    · exact h.neq j q hj
    · cases hj
theorem OpenV.ext {w w' : World} {bb g cap : Nat} {cnt : Value} {qs : List Nat} {tags : List Int} (h : OpenV w bb g cap cnt qs tags) (k : Ext w w') : OpenV w' bb g cap cnt qs tags :=
  ⟨k.block h.blk, fun j q hj => k.cell (h.row j q hj), fun j q t hj ht => k.cell (h.tag j q t hj ht), h.len, h.pos, h.most, h.capl, h.one, ⟨h.ne.1, Nat.lt_of_lt_of_le h.ne.2.1 k.size, Nat.lt_of_lt_of_le h.ne.2.2 k.size⟩, h.neq⟩

theorem closeC_stop (is stops : Int → Bool) : ∀ (k : Nat) (L : List Int) (t : Int), L[k]? = some t → (∀ j x, j < k → L[j]? = some x → is x = false ∧ stops x = false) → (k + 1 = L.length ∨ (stops t = true ∧ is t = false)) → closeC is stops L = 0
  | 0, L, t, ht, _, h => by
    cases L with
    | nil => simp at ht
    | cons a r =>
      cases ht
      cases r with
      | nil => rfl
      | cons b r =>
        rcases h with h | ⟨h1, h2⟩
        · simp at h
        · unfold closeC; rw [h1, h2]; rfl
  | k + 1, L, t, ht, hgo, h => by
    cases L with
    | nil => simp at ht
    | cons a r =>
      cases r with
      | nil => simp at ht
      | cons b r =>
        obtain ⟨g1, g2⟩ := hgo 0 a (by omega) rfl
        have ih := closeC_stop is stops k (b :: r) t ht (fun j x hj hx => hgo (j + 1) x (by omega) hx) (h.imp (fun h => by simpa using h) id)
        unfold closeC
        rw [g1, g2, ih]
        rfl
theorem closeC_close (is stops : Int → Bool) : ∀ (k : Nat) (L : List Int) (t : Int), L[k]? = some t → (∀ j x, j < k → L[j]? = some x → is x = false ∧ stops x = false) → k + 1 < L.length → is t = true → closeC is stops L = k + 1
  | 0, L, t, ht, _, hl, h => by
    cases L with
    | nil => simp at ht
    | cons a r =>
      cases ht
      cases r with
      | nil => simp at hl
      | cons b r => unfold closeC; rw [h]; simp
  | k + 1, L, t, ht, hgo, hl, h => by
    cases L with
    | nil => simp at ht
    | cons a r =>
      cases r with
      | nil => simp at ht
      | cons b r =>
        obtain ⟨g1, g2⟩ := hgo 0 a (by omega) rfl
        have ih := closeC_close is stops k (b :: r) t ht (fun j x hj hx => hgo (j + 1) x (by omega) hx) (by simpa using hl) h
        unfold closeC
        rw [g1, g2, ih]
        rfl

def goX (p q : Int → Bool) {qs : List Nat} {tags : List Int} (x : AX qs tags) : Prop := x.1.1 ≠ 0 ∧ p x.1.2.2 = false ∧ q x.1.2.2 = false
def outX (p q : Int → Bool) (bb g cap : Nat) (cnt : Value) (w : World) {qs : List Nat} {tags : List Int} (pre : List (AX qs tags)) (W : World) : Prop := ∃ p0 x, pre = p0 ++ [x] ∧ (∀ y ∈ p0, goX p q y) ∧ Mv (· = bb) w W ∧
  (((x.1.1 = 0 ∨ (q x.1.2.2 = true ∧ p x.1.2.2 = false)) ∧ W.heap[bb]? = some (.cells #[.slice (some ⟨g, 0, none⟩) qs.length cap, cnt] 53 (0, 0))) ∨
   (x.1.1 ≠ 0 ∧ p x.1.2.2 = true ∧ W.heap[bb]? = some (.cells #[.slice (some ⟨g, 0, none⟩) x.1.1 cap, cnt] 53 (0, 0))))
theorem outX_own (p q : Int → Bool) (bb g cap : Nat) (cnt : Value) (w : World) {qs : List Nat} {tags : List Int} {B : Nat} (hB : w.heap.size ≤ B) (hbb : bb < B) : OwnFrom B (fun (pre : List (AX qs tags)) W => outX p q bb g cap cnt w pre W) := by
  rintro s A A' row ⟨p0, x, h1, h2, h3, h4⟩ hg hr
  have hkeep : ∀ o, A.heap[bb]? = some o → A'.heap[bb]? = some o := fun o ho => (hg.block bb (Array.getElem?_eq_some_iff.1 ho).1 fun e => by have := (hr bb e.symm).1; omega).trans ho
  exact ⟨p0, x, h1, h2, h3.grown hg (fun k hk hlt => by have := (hr k hk).1; omega), h4.imp (fun h => ⟨h.1, hkeep _ h.2⟩) fun h => ⟨h.1, h.2.1, hkeep _ h.2.2⟩⟩
theorem outX_done {p q : Int → Bool} {bb g cap : Nat} {cnt : Value} {w : World} {qs : List Nat} {tags : List Int} (ht : tags.length = qs.length) {k : Nat} (hk : k ≤ qs.length) {W : World} (h : outX p q bb g cap cnt w ((backX qs tags ht).take k) W) :
    Mv (· = bb) w W ∧ W.heap[bb]? = some (.cells #[.slice (some ⟨g, 0, none⟩) (qs.length - closeC p q tags.reverse) cap, cnt] 53 (0, 0)) := by
  obtain ⟨p0, x, h1, h2, h3, h4⟩ := h
  refine ⟨h3, ?_⟩
  have hlen := congrArg List.length h1
  rw [List.length_take, backX_len, Nat.min_eq_left hk, List.length_append, List.length_singleton] at hlen
  have hget : ∀ j, j < k → ∃ y, (backX qs tags ht)[j]? = some y ∧ y.1.1 = qs.length - 1 - j ∧ tags.reverse[j]? = some y.1.2.2 ∧ (p0 ++ [x])[j]? = some y := fun j hj => by
    obtain ⟨y, hy1, hy2⟩ := backX_get ht (k := j) (by omega)
    refine ⟨y, hy1, hy2, ?_, ?_⟩
    · rw [List.getElem?_reverse (by omega), ht, ← hy2]
      exact y.2.2
    · rw [← h1, List.getElem?_take, if_pos hj]; exact hy1
  obtain ⟨y, hy1, hy2, hy3, hy4⟩ := hget p0.length (by omega)
  have hyx : y = x := by
    rw [List.getElem?_append_right (Nat.le_refl _), Nat.sub_self] at hy4
    exact (Option.some.inj hy4).symm
  subst hyx
  have hgo : ∀ j z, j < p0.length → tags.reverse[j]? = some z → p z = false ∧ q z = false := fun j z hj hz => by
    obtain ⟨u, hu1, hu2, hu3, hu4⟩ := hget j (by omega)
    rw [List.getElem?_append_left hj] at hu4
    rw [hu3] at hz
    cases hz
    have := h2 u (List.mem_of_getElem? hu4)
    exact ⟨this.2.1, this.2.2⟩
  rcases h4 with ⟨h5, h6⟩ | ⟨h5, h6, h7⟩
  · rw [closeC_stop p q p0.length tags.reverse _ hy3 hgo (h5.imp (fun h => by rw [List.length_reverse, ht]; omega) id), Nat.sub_zero]
    exact h6
  · rw [closeC_close p q p0.length tags.reverse _ hy3 hgo (by rw [List.length_reverse, ht]; omega) h6]
    rw [show qs.length - (p0.length + 1) = y.1.1 by omega]
    exact h7
theorem keepX {B : Nat} {W W' : World} (x : Ext W W') : KeepsFrom B W W' := KeepsFrom.of_grownBy (growOf (row := none) x) (fun j e => by cases e)
theorem putMv {bb D : Nat} {w W : World} (h : Mv (· = bb) w W) (hD : w.heap.size ≤ D) (o : Obj) : Mv (· = bb) w (W.putObj D o) := h.grown (grownBy_putObj' W D o) (fun k hk hlt => by cases hk; omega)
theorem back_stops {qs : List Nat} {tags : List Int} (ht : tags.length = qs.length) (hq : qs.length ≤ 60000) (n : Nat) (hn : 1 ≤ n) (Bs g cap : Nat) (W0 : World) (hg : g < W0.heap.size) (hB : Bs < W0.heap.size)
    (hBs : W0.cell? ⟨Bs, 0, none⟩ = some (.slice (some ⟨g, 0, none⟩) qs.length cap)) (hc : ∀ (j : Nat) q, qs[j]? = some q → W0.cell? ⟨g, j, none⟩ = some (ptrV q)) :
    SeqStopsK Fence.wide n Tryz.prog 153 #[.pointer (some ⟨Bs, 0, none⟩)] (axs (qs := qs) (tags := tags)) (Below W0.heap.size) (fun ys => ys = backX qs tags ht) (fun pre => ∃ k, k ≤ qs.length ∧ pre = (backX qs tags ht).take k) qs.length W0 := fun l J Jx W hW _ _ hY h0 =>
  back1_in qs tags ht hq n hn l Bs W0.heap.size g cap hg hB J Jx hY W ((hW.cell (p := ⟨Bs, 0, none⟩) hB).trans hBs) (fun j q hj => (hW.cell (p := ⟨g, j, none⟩) hg).trans (hc j q hj)) h0
theorem close_any {w : World} {bb g cap : Nat} {cnt : Value} {qs : List Nat} {tags : List Int} (h : OpenV w bb g cap cnt qs tags) {p q : Int → Bool} {fp fq : Value} (hp : IsF p fp w) (hq : IsF q fq w) :
    Calls Tryz.prog 58 #[.pointer (some ⟨bb, 0, none⟩), fp, fq] w (RClose w bb g (qs.length - closeC p q tags.reverse) cap cnt) := by
  obtain ⟨g1, lb1, rfl, eg1, hp⟩ := hp
  obtain ⟨g2, lb2, rfl, eg2, hq⟩ := hq
  have HP := qh hp
  have HQ := qh hq
  have HO := qh h
  have HE := qh (And.intro eg1 eg2)
  obtain ⟨N, hN⟩ : ∃ N, qs.length = N := ⟨_, rfl⟩
  have HN := qh hN
  have x3 : Ext w (((w.alloc (.cells #[.pointer (some ⟨bb, 0, none⟩)] 47)).alloc (.cells #[.func (.func g1) #[] lb1] 100)).alloc (.cells #[.func (.func g2) #[] lb2] 100)) := (((Ext.refl w).alloc _).alloc _).alloc _
  have cb3 := x3.cell (cellOf h.blk (i := 0) (v := .slice (some ⟨g, 0, none⟩) qs.length cap) rfl)
  rw [hN] at cb3
  have X3 := qh x3
  clear hp hq h x3 hN eg1 eg2
  refine (callsIn_wide (n := 5)).1 ?_
  refine callsIn_of_wp_marks Tryz.func58 rfl trivial ?_ rfl
  simp only [Tryz.ntmps58, List.size_toArray, List.length_cons, List.length_nil, Nat.reduceAdd, Nat.reduceSub, Array.replicate_succ, Array.replicate_zero, List.push_toArray, List.append_toArray, List.nil_append, List.cons_append]
  gi_wp2_with (gi_at_call 100; refine (callsIn_wide.2 (backward_any _ _ _ _)).mono ?_; rintro e w' ⟨rfl, rfl⟩)
  have XX : Hid (Ext w ((((w.alloc (.cells #[.pointer (some ⟨bb, 0, none⟩)] 47)).alloc (.cells #[.func (.func g1) #[] lb1] 100)).alloc (.cells #[.func (.func g2) #[] lb2] 100)).alloc (.cells #[.slice (some ⟨g, 0, none⟩) N cap] 49))) := qh (X3.out.alloc _)
  have hsz : ((((w.alloc (.cells #[.pointer (some ⟨bb, 0, none⟩)] 47)).alloc (.cells #[.func (.func g1) #[] lb1] 100)).alloc (.cells #[.func (.func g2) #[] lb2] 100)).alloc (.cells #[.slice (some ⟨g, 0, none⟩) N cap] 49)).heap.size = w.heap.size + 4 := by simp
  have h0 := heap_alloc_new w (.cells #[.pointer (some ⟨bb, 0, none⟩)] 47)
  have h1 := heap_alloc_new (w.alloc (.cells #[.pointer (some ⟨bb, 0, none⟩)] 47)) (.cells #[.func (.func g1) #[] lb1] 100)
  have h2 := heap_alloc_new ((w.alloc (.cells #[.pointer (some ⟨bb, 0, none⟩)] 47)).alloc (.cells #[.func (.func g1) #[] lb1] 100)) (.cells #[.func (.func g2) #[] lb2] 100)
  have h3 := heap_alloc_new (((w.alloc (.cells #[.pointer (some ⟨bb, 0, none⟩)] 47)).alloc (.cells #[.func (.func g1) #[] lb1] 100)).alloc (.cells #[.func (.func g2) #[] lb2] 100)) (.cells #[.slice (some ⟨g, 0, none⟩) N cap] 49)
  replace h0 := ((((Ext.refl _).alloc _).alloc _).alloc (.cells #[.slice (some ⟨g, 0, none⟩) N cap] 49)).block (w' := ((((w.alloc (.cells #[.pointer (some ⟨bb, 0, none⟩)] 47)).alloc (.cells #[.func (.func g1) #[] lb1] 100)).alloc (.cells #[.func (.func g2) #[] lb2] 100)).alloc (.cells #[.slice (some ⟨g, 0, none⟩) N cap] 49))) h0
  replace h1 := (((Ext.refl _).alloc _).alloc (.cells #[.slice (some ⟨g, 0, none⟩) N cap] 49)).block (w' := ((((w.alloc (.cells #[.pointer (some ⟨bb, 0, none⟩)] 47)).alloc (.cells #[.func (.func g1) #[] lb1] 100)).alloc (.cells #[.func (.func g2) #[] lb2] 100)).alloc (.cells #[.slice (some ⟨g, 0, none⟩) N cap] 49))) h1
  replace h2 := ((Ext.refl _).alloc (.cells #[.slice (some ⟨g, 0, none⟩) N cap] 49)).block (w' := ((((w.alloc (.cells #[.pointer (some ⟨bb, 0, none⟩)] 47)).alloc (.cells #[.func (.func g1) #[] lb1] 100)).alloc (.cells #[.func (.func g2) #[] lb2] 100)).alloc (.cells #[.slice (some ⟨g, 0, none⟩) N cap] 49))) h2
  simp only [World.size_alloc] at h1 h2 h3
  generalize ((((w.alloc (.cells #[.pointer (some ⟨bb, 0, none⟩)] 47)).alloc (.cells #[.func (.func g1) #[] lb1] 100)).alloc (.cells #[.func (.func g2) #[] lb2] 100)).alloc (.cells #[.slice (some ⟨g, 0, none⟩) N cap] 49)) = W0 at XX hsz h0 h1 h2 h3 ⊢
  clear cb3 X3
  have HW0 := HO.out.ext XX.out
  have HOW := qh HW0
  have k0 := cellOf h0 (i := 0) (v := .pointer (some ⟨bb, 0, none⟩)) rfl
  have k1 := cellOf h1 (i := 0) (v := .func (.func g1) #[] lb1) rfl
  have k2 := cellOf h2 (i := 0) (v := .func (.func g2) #[] lb2) rfl
  have k3 := cellOf h3 (i := 0) (v := .slice (some ⟨g, 0, none⟩) N cap) rfl
  have hbb := HW0.ne
  clear h0 h1 h2 h3
  have HK0 := qh (And.intro k0 (And.intro k1 k2))
  have HSZ := qh hsz
  refine wpIn_rangeFunc_ownG rfl (by omega) (gf := 153) (lb := #[.pointer (some ⟨w.heap.size + 1 + 1 + 1, 0, none⟩)]) rfl trivial (enters_of Tryz.func153 (by kernel_rfl) rfl)
    (back_stops (qs := qs) (tags := tags) HO.out.len HO.out.most 4 (by omega) (w.heap.size + 1 + 1 + 1) g cap W0 hbb.2.1 (by omega) (by rw [HN.out]; exact k3) HW0.row) belowK_t (belowK_b (Nat.le_refl _)) (Below.refl _ _) (fun _ => rfl)
    (fun pre W => (∀ y ∈ pre, goX p q y) ∧ Ext W0 W)
    (fun c pre W => c = .ret ∧ outX p q bb g cap cnt W0 pre W)
    (fun s A A' row hs hg hr => ⟨hs.1, hs.2.grown hg (fun k hk => (hr k hk).1)⟩)
    (fun c s A A' row hs hg hr => ⟨hs.1, outX_own p q bb g cap cnt W0 (Nat.le_refl _) hbb.2.2 s A A' row hs.2 hg hr⟩)
    ⟨fun y hy => by simp at hy, Ext.refl _⟩
    (fun x => { tmps := #[.pointer (some ⟨bb, 0, none⟩), .func (.func g1) #[] lb1, .func (.func g2) #[] lb2, .pointer (some ⟨w.heap.size, 0, none⟩), .pointer (some ⟨w.heap.size + 1, 0, none⟩), .pointer (some ⟨w.heap.size + 1 + 1, 0, none⟩), .int .i64 (x.1.1 : Int), .pointer (some ⟨x.1.2.1, 0, none⟩), .pointer (some ⟨bb, 0, none⟩), .pointer (some ⟨bb, 0, none⟩), .pointer (some ⟨bb, 0, none⟩), .slice (some ⟨g, 0, none⟩) N cap, .func (.func 153) #[] #[.pointer (some ⟨w.heap.size + 1 + 1 + 1, 0, none⟩)], .int .i64 (x.1.1 : Int), .pointer (some ⟨x.1.2.1, 0, none⟩), undef, undef, undef, undef, undef, undef, undef, undef, undef, undef, undef, undef, undef, undef, undef, undef, undef, undef, undef, undef, undef, undef, undef, undef, undef, undef, undef, undef, undef, undef, undef, undef, undef, undef, undef, undef, undef, undef, undef], defers := [] }) ?assign ?body ?done ?stop
  case assign =>
    intro l x W K hK
    unfold axs
    gi_wp2
    exact hK
  case body =>
    rintro l pre x W ⟨hgo, hB⟩ _
    dsimp only
    have HGO := qh hgo
    have HB := qh hB
    have HXT := qh (HOW.out.tag _ _ _ x.2.1 x.2.2)
    have HIL := qh (show x.1.1 < N by rw [← HN.out]; exact (List.getElem?_eq_some_iff.1 x.2.1).1)
    obtain ⟨i, hi⟩ : ∃ i : Nat, x.1.1 = i := ⟨_, rfl⟩
    obtain ⟨r, hr⟩ : ∃ r : Nat, x.1.2.1 = r := ⟨_, rfl⟩
    obtain ⟨t, ht⟩ : ∃ t : Int, x.1.2.2 = t := ⟨_, rfl⟩
    rw [hi] at HIL
    rw [hr, ht] at HXT
    rw [hi, hr]
    have HI := qh (And.intro hi ht)
    clear hgo hB hi hr ht k0 k1 k2 k3 HW0 hbb hsz
    have m0 : ∀ u : ExtOf W, u.val.cell? ⟨w.heap.size, 0, none⟩ = some (.pointer (some ⟨bb, 0, none⟩)) := fun u => (HB.out.trans u.ext).cell HK0.out.1
    have m1 : ∀ u : ExtOf W, u.val.cell? ⟨w.heap.size + 1, 0, none⟩ = some (.func (.func g1) #[] lb1) := fun u => (HB.out.trans u.ext).cell HK0.out.2.1
    have m2 : ∀ u : ExtOf W, u.val.cell? ⟨w.heap.size + 1 + 1, 0, none⟩ = some (.func (.func g2) #[] lb2) := fun u => (HB.out.trans u.ext).cell HK0.out.2.2
    have m3 : ∀ u : ExtOf W, u.val.cell? ⟨r, 0, none⟩ = some (.int .i64 t) := fun u => (HB.out.trans u.ext).cell HXT.out
    have HCQ := qh (fun u : ExtOf W => inExtIn (n := 5 - 1 - 1 - 1) (u := u) (callsIn_wide.2 (HQ.out u.val t ((XX.out.trans HB.out).trans u.ext))))
    have HCP := qh (fun (v : ExtOf W) (u : ExtOf v.val) => inExtIn (n := 5 - 1 - 1 - 1) (u := u) (callsIn_wide.2 (HP.out u.val t (((XX.out.trans HB.out).trans v.ext).trans u.ext))))
    have HCP0 := qh (fun u : ExtOf W => inExtIn (n := 5 - 1 - 1 - 1) (u := u) (callsIn_wide.2 (HP.out u.val t ((XX.out.trans HB.out).trans u.ext))))
    by_cases h0 : i = 0
    · subst h0
      gi_upto_region 4 with fail
      refine wpIn_region_round rfl (by kernel_rfl) (by kernel_rfl) (by kernel_rfl) ?_
      repeat (gi_big_quiet_step (fail))
      refine wpQuietIn_nil ?_
      rintro _ ⟨u, rfl⟩
      gi_wp2
      exact ⟨keepX u.ext, rfl, pre, x, rfl, HGO.out, Mv.ofExt (HB.out.trans u.ext), .inl ⟨.inl HI.out.1, (HB.out.trans u.ext).block HOW.out.blk⟩⟩
    · obtain ⟨eg1, eg2⟩ := HE.out
      have HNI := qh h0
      have d0 : ((i : Int) == 0) = false := by simpa using h0
      clear h0
      obtain ⟨bq, hbq⟩ : ∃ bq, q t = bq := ⟨_, rfl⟩
      obtain ⟨bp, hbp⟩ : ∃ bp, p t = bp := ⟨_, rfl⟩
      have HQT := qh hbq
      have HPT := qh hbp
      rw [hbq] at HCQ
      rw [hbp] at HCP HCP0
      clear hbq hbp
      cases bq with
      | false =>
        cases bp with
        | false =>
          gi_upto_region 4 with fail
          refine wpIn_region_round rfl (by kernel_rfl) (by kernel_rfl) (by kernel_rfl) ?_
          repeat (gi_big_quiet_step ((gi_at_fn g2; exact HCQ.out _)))
          refine wpQuietIn_nil ?_
          rintro _ ⟨u, rfl⟩
          gi_upto_region 5 with fail
          refine wpIn_region_round rfl (by kernel_rfl) (by kernel_rfl) (by kernel_rfl) ?_
          have m1 : ∀ v : ExtOf u.val, v.val.cell? ⟨w.heap.size + 1, 0, none⟩ = some (.func (.func g1) #[] lb1) := fun v => v.ext.cell (m1 u)
          have m3 : ∀ v : ExtOf u.val, v.val.cell? ⟨r, 0, none⟩ = some (.int .i64 t) := fun v => v.ext.cell (m3 u)
          repeat (gi_big_quiet_step ((gi_at_fn g1; exact HCP.out _ _)))
          refine wpQuietIn_nil ?_
          rintro _ ⟨v, rfl⟩
          gi_wp2
          refine ⟨keepX (u.ext.trans v.ext), (Below.mono (u.ext.trans v.ext) HB.out.size), fun y hy => ?_, HB.out.trans (u.ext.trans v.ext)⟩
          rcases List.mem_append.1 hy with hy | hy
          · exact HGO.out y hy
          · obtain rfl : y = x := by simpa using hy
            exact ⟨by rw [HI.out.1]; exact HNI.out, by rw [HI.out.2]; exact HPT.out, by rw [HI.out.2]; exact HQT.out⟩
        | true =>
          gi_upto_region 4 with fail
          refine wpIn_region_round rfl (by kernel_rfl) (by kernel_rfl) (by kernel_rfl) ?_
          repeat (gi_big_quiet_step ((gi_at_fn g2; exact HCQ.out _)))
          refine wpQuietIn_nil ?_
          rintro _ ⟨u, rfl⟩
          gi_upto_region 5 with fail
          refine wpIn_region_round rfl (by kernel_rfl) (by kernel_rfl) (by kernel_rfl) ?_
          have m1 : ∀ v : ExtOf u.val, v.val.cell? ⟨w.heap.size + 1, 0, none⟩ = some (.func (.func g1) #[] lb1) := fun v => v.ext.cell (m1 u)
          have m3 : ∀ v : ExtOf u.val, v.val.cell? ⟨r, 0, none⟩ = some (.int .i64 t) := fun v => v.ext.cell (m3 u)
          repeat (gi_big_quiet_step ((gi_at_fn g1; exact HCP.out _ _)))
          refine wpQuietIn_nil ?_
          rintro _ ⟨v, rfl⟩
          gi_upto_region 6 with fail
          have n0 := (v.ext.cell (m0 u))
          have n4 := cellOf ((HB.out.trans (u.ext.trans v.ext)).block HOW.out.blk) (i := 0) (v := .slice (some ⟨g, 0, none⟩) qs.length cap) rfl
          have f4 := freeOf ((HB.out.trans (u.ext.trans v.ext)).block HOW.out.blk) 0
          rw [HN.out] at n4
          have hic : i ≤ cap := by have h1 := HIL.out; have h2 := HOW.out.capl; have h3 := HN.out; omega
          have hiN : i ≤ N := Nat.le_of_lt HIL.out
          have FIN : Hid (∀ W' : World, W' = v.val.drew.setCell ⟨bb, 0, none⟩ (.slice (some ⟨g, 0, none⟩) i cap) → KeepsFrom W0.heap.size W W' ∧ outX p q bb g cap cnt W0 (pre ++ [x]) W') := qh (by
            rintro W' rfl
            have xv := u.ext.trans v.ext.drew
            refine ⟨(keepX xv).trans ((KeepsOthers.setCell _ _ _).from _), pre, x, rfl, HGO.out, (Mv.ofExt (S := (· = bb)) (HB.out.trans xv)).setCell (p := ⟨bb, 0, none⟩) (fun _ => rfl) _, .inr ⟨by rw [HI.out.1]; exact HNI.out, by rw [HI.out.2]; exact HPT.out, ?_⟩⟩
            rw [HI.out.1]
            exact heap_setCell_same (i := 0) ((HB.out.trans xv).block HOW.out.blk) _)
          clear m0 m1 m2 m3
          have hmx : Tryz.prog.follows .mixedOrders = true := by kernel_rfl
          gi_region_with_o (fail)
          all_goals gi_wp2
          all_goals exact ⟨(FIN.out _ rfl).1, rfl, (FIN.out _ rfl).2⟩
      | true =>
        cases bp with
        | false =>
          gi_upto_region 4 with fail
          refine wpIn_region_round rfl (by kernel_rfl) (by kernel_rfl) (by kernel_rfl) ?_
          repeat (gi_big_quiet_step (first | (gi_at_fn g2; exact HCQ.out _) | (gi_at_fn g1; exact HCP0.out _)))
          refine wpQuietIn_nil ?_
          rintro _ ⟨u, rfl⟩
          gi_wp2
          exact ⟨keepX u.ext, rfl, pre, x, rfl, HGO.out, Mv.ofExt (HB.out.trans u.ext), .inl ⟨.inr ⟨by rw [HI.out.2]; exact HQT.out, by rw [HI.out.2]; exact HPT.out⟩, (HB.out.trans u.ext).block HOW.out.blk⟩⟩
        | true =>
          gi_upto_region 4 with fail
          refine wpIn_region_round rfl (by kernel_rfl) (by kernel_rfl) (by kernel_rfl) ?_
          repeat (gi_big_quiet_step (first | (gi_at_fn g2; exact HCQ.out _) | (gi_at_fn g1; exact HCP0.out _)))
          refine wpQuietIn_nil ?_
          rintro _ ⟨u, rfl⟩
          gi_upto_region 5 with fail
          refine wpIn_region_round rfl (by kernel_rfl) (by kernel_rfl) (by kernel_rfl) ?_
          have m1 : ∀ v : ExtOf u.val, v.val.cell? ⟨w.heap.size + 1, 0, none⟩ = some (.func (.func g1) #[] lb1) := fun v => v.ext.cell (m1 u)
          have m3 : ∀ v : ExtOf u.val, v.val.cell? ⟨r, 0, none⟩ = some (.int .i64 t) := fun v => v.ext.cell (m3 u)
          repeat (gi_big_quiet_step ((gi_at_fn g1; exact HCP.out _ _)))
          refine wpQuietIn_nil ?_
          rintro _ ⟨v, rfl⟩
          gi_upto_region 6 with fail
          have n0 := (v.ext.cell (m0 u))
          have n4 := cellOf ((HB.out.trans (u.ext.trans v.ext)).block HOW.out.blk) (i := 0) (v := .slice (some ⟨g, 0, none⟩) qs.length cap) rfl
          have f4 := freeOf ((HB.out.trans (u.ext.trans v.ext)).block HOW.out.blk) 0
          rw [HN.out] at n4
          have hic : i ≤ cap := by have h1 := HIL.out; have h2 := HOW.out.capl; have h3 := HN.out; omega
          have hiN : i ≤ N := Nat.le_of_lt HIL.out
          have FIN : Hid (∀ W' : World, W' = v.val.drew.setCell ⟨bb, 0, none⟩ (.slice (some ⟨g, 0, none⟩) i cap) → KeepsFrom W0.heap.size W W' ∧ outX p q bb g cap cnt W0 (pre ++ [x]) W') := qh (by
            rintro W' rfl
            have xv := u.ext.trans v.ext.drew
            refine ⟨(keepX xv).trans ((KeepsOthers.setCell _ _ _).from _), pre, x, rfl, HGO.out, (Mv.ofExt (S := (· = bb)) (HB.out.trans xv)).setCell (p := ⟨bb, 0, none⟩) (fun _ => rfl) _, .inr ⟨by rw [HI.out.1]; exact HNI.out, by rw [HI.out.2]; exact HPT.out, ?_⟩⟩
            rw [HI.out.1]
            exact heap_setCell_same (i := 0) ((HB.out.trans xv).block HOW.out.blk) _)
          clear m0 m1 m2 m3
          have hmx : Tryz.prog.follows .mixedOrders = true := by kernel_rfl
          gi_region_with_o (fail)
          all_goals gi_wp2
          all_goals exact ⟨(FIN.out _ rfl).1, rfl, (FIN.out _ rfl).2⟩
  case done =>
    rintro D xs W hD rfl ⟨hgo, hB⟩ hK
    obtain ⟨x, hx, hx1⟩ := backX_get HO.out.len (k := qs.length - 1) (by have := HO.out.pos; omega)
    exact absurd (by omega) (hgo x (List.mem_of_getElem? hx)).1
  case stop =>
    rintro D c pre W hD ⟨k, hk, rfl⟩ ⟨rfl, hout⟩ hK
    obtain ⟨h1, h2⟩ := outX_done HO.out.len hk hout
    gi_wp2
    refine ⟨by simp, .inl ⟨_, _, rfl, run_takeDeferred hK, ?_⟩⟩
    exact ⟨_, results_none rfl _ _ _, rfl, Mv.after XX.out (putMv h1 hD _), (World.putObj_heap_other (by have := HOW.out.ne.2.2; omega)).trans (HN.out ▸ h2)⟩
end Go.Proofs.YtalaajbajgdglaaGreatDoor
namespace Go.Proofs.YtalaajbajgdglaaGreatDoor
open Go Go.RowKit Go.BigFrame We
def RRowE (n : Nat) (xs : List Value) (w : World) (e : Ending) (w' : World) : Prop := ∃ v, e = .returned v ∧ RowP w' (fun g => w.heap.size ≤ g) 48 1 v n xs ∧ Ext w w'
theorem infoEl : (Tryz.prog.info? 48).map (fun i => (i.zero, i.size, i.bytes)) = some (some (.pointer none), 1, 8) := by kernel_rfl
section
variable {w : World} {bb g cap : Nat} {cnt : Value} {qs : List Nat} {tags : List Int}
theorem in_any (h : OpenV w bb g cap cnt qs tags) {q : Nat} (hq : qs[qs.length - 1]? = some q) : Calls Tryz.prog 97 #[.pointer (some ⟨bb, 0, none⟩)] w (RVal (.pointer (some ⟨q, 0, none⟩)) w) := by
  obtain ⟨k, hk⟩ : ∃ k, qs.length = k + 1 := ⟨qs.length - 1, by have := h.pos; omega⟩
  have hr : w.cell? ⟨g, k, none⟩ = some (.pointer (some ⟨q, 0, none⟩)) := h.row k q (by rw [hk] at hq; exact hq)
  have hb := cellOf h.blk (i := 0) (v := .slice (some ⟨g, 0, none⟩) qs.length cap) rfl
  rw [hk] at hb
  have HM := qh h.most
  have r1 : ∀ u : ExtOf w, u.val.cell? ⟨g, k, none⟩ = some (.pointer (some ⟨q, 0, none⟩)) := fun u => u.ext.cell hr
  have r2 : ∀ u : ExtOf w, u.val.cell? ⟨bb, 0, none⟩ = some (.slice (some ⟨g, 0, none⟩) (k + 1) cap) := fun u => u.ext.cell hb
  have e1 : wrap64 (k : Int) = (k : Int) := IntWalk.wrap64_in _ (by have := HM.out; omega)
  have hkl : k < k + 1 := Nat.lt_succ_self k
  clear h hr hb hq
  go_enter Tryz.func97, Tryz.ntmps97
  go_upto_region 1 with fail
  refine wp_region_ext (by kernel_rfl) (by kernel_rfl) ?_
  repeat (go_big_quiet_step (fail))
  refine wpQuiet_nil ?_
  rintro _ ⟨u, rfl⟩
  go_wp2_with fail
  go_ret
  exact ⟨rfl, u.ext⟩
theorem room_any {cnt : Nat} (h : OpenV w bb g cap (.int .i64 (cnt : Int)) qs tags) : Calls Tryz.prog 99 #[.pointer (some ⟨bb, 0, none⟩)] w (RBool (roomB cnt qs.length) w) := by
  have x0 := Ext.refl w
  have hb := cellOf h.blk (i := 0) (v := .slice (some ⟨g, 0, none⟩) qs.length cap) rfl
  have hc := cellOf h.blk (i := 1) (v := .int .i64 (cnt : Int)) rfl
  unfold roomB
  obtain ⟨n, hn⟩ : ∃ n, qs.length = n := ⟨_, rfl⟩
  rw [hn] at hb ⊢
  clear h hn
  by_cases h1 : cnt < 2000
  · have d1 : decide ((cnt : Int) < 2000) = true := decide_eq_true (by omega)
    have d2 : decide (cnt < 2000) = true := decide_eq_true h1
    rw [d2]
    by_cases h2 : n ≤ 40
    · have d3 : decide ((n : Int) ≤ 40) = true := decide_eq_true (by omega)
      have d4 : decide (n ≤ 40) = true := decide_eq_true h2
      rw [d4]
      clear h1 h2
      go_enter Tryz.func99, Tryz.ntmps99
      go_wp2
      go_ret
      exact ⟨rfl, x0⟩
    · have d3 : decide ((n : Int) ≤ 40) = false := decide_eq_false (by omega)
      have d4 : decide (n ≤ 40) = false := decide_eq_false h2
      rw [d4]
      clear h1 h2
      go_enter Tryz.func99, Tryz.ntmps99
      go_wp2
      go_ret
      exact ⟨rfl, x0⟩
  · have d1 : decide ((cnt : Int) < 2000) = false := decide_eq_false (by omega)
    have d2 : decide (cnt < 2000) = false := decide_eq_false h1
    rw [d2]
    clear h1
    go_enter Tryz.func99, Tryz.ntmps99
    go_wp2
    go_ret
    exact ⟨rfl, x0⟩
end
theorem cloneE_any {g cap n : Nat} {qs : List Nat} {w : World} (hn : qs.length = n) (h0 : 0 < n) (hn6 : n ≤ 60000) (hc : ∀ (j : Nat) q, qs[j]? = some q → w.cell? ⟨g, j, none⟩ = some (ptrV q)) :
    Calls Tryz.prog 101 #[.slice (some ⟨g, 0, none⟩) n cap] w (RRowE n (qs.map ptrV) w) := by
  have he := fun (w : World) (a : Option Addr) (n c : Nat) => Lib.run_eql_slice_nil (P := Tryz.prog) w 49 48 a n c 0 0 Tryz.underlying49
  obtain ⟨i0, hi, hz0, hz1, hz2⟩ := info_parts infoEl
  have Hi := qh hi
  have Hz0 := qh hz0
  have Hz1 := qh hz1
  have Hz2 := qh hz2
  have HC := qh hc
  have HL := qh (show (qs.map ptrV).length = n * 1 by simp [hn])
  have H1 := qh (show ∀ u ∈ qs.map ptrV, u.oneCell' = true by intro u hu; obtain ⟨q, -, rfl⟩ := List.mem_map.1 hu; rfl)
  have HN := qh (And.intro h0 hn6)
  clear hi hz0 hz1 hz2 hc hn h0 hn6
  go_enter Tryz.func101, Tryz.ntmps101
  go_wp2_with (at_builtin; refine wpList_append_grows _ rfl _ _ 49 rfl 48 i0 (.pointer none) 1 8 Tryz.underlying49 Hi.out Hz0.out Hz1.out Hz2.out rfl (by decide) (some ⟨w.heap.size, 0, none⟩) 0 0 [] rfl (by simp) (by simp) (by simp) ⟨g, 0, none⟩ n cap (qs.map ptrV) rfl HL.out ?c2 H1.out ?c5 ?c3 ?c4 ?_)
  case c2 =>
    intro j u hj
    rw [List.getElem?_map] at hj
    cases hq : qs[j]? with
    | none => rw [hq] at hj; cases hj
    | some q =>
      rw [hq] at hj
      cases hj
      have hcj := HC.out j q hq
      rw [Addr.add_lit, Nat.zero_add]
      exact (Below.cell ((Ext.refl w).alloc _) (World.block_lt_of_cell? w _ hcj)).trans hcj
  case c5 => have := HN.out; omega
  case c3 => have := HN.out; unfold maxLen; omega
  case c4 => have := HN.out; omega
  intro v' w1 hown hg
  have hb : Ext w w1 := ((Ext.refl _).alloc _).grown hg (by simp)
  clear hg
  go_wp2
  go_ret
  refine ⟨_, rfl, ?_, hb⟩
  have hr : RowIn w1 (w.heap.size + 1) 48 1 v' n (qs.map ptrV) := by simpa using RowP.of_owns hown
  exact RowP.imp hr (fun g _ (hg : w.heap.size + 1 ≤ g) => Nat.le_of_succ_le hg)
section
variable {w : World} {bb g cap : Nat} {cnt : Value} {qs : List Nat} {tags : List Int}
theorem drop_rev {α : Type} (l : List α) (n : Nat) : (l.take (l.length - n)).reverse = l.reverse.drop n := by rw [List.drop_reverse]
theorem ahead_any (h : OpenV w bb g cap cnt qs tags) (tag : Int) : Calls Tryz.prog 62 #[.pointer (some ⟨bb, 0, none⟩), .int .i64 tag] w (RClose w bb g (qs.length - aheadC tag tags.reverse) cap cnt) := by
  have hb0 := heap_alloc_new w (.cells #[.func (.func 102) #[] #[]] 100)
  have x0 := (Ext.refl w).alloc (.cells #[.func (.func 102) #[] #[]] 100)
  have HH := qh h
  have hlt : closeC isPH stPH tags.reverse < tags.length := by have := closeC_lt isPH stPH tags.reverse (by intro e; have := h.pos; have := h.len; simp at e; rw [e] at this; simp at this; omega); rwa [List.length_reverse] at this
  have HLT := qh (show closeC isPH stPH tags.reverse < qs.length by rw [← h.len]; exact hlt)
  have HCL := qh (fun W => Class_any W tag)
  -- the second close, behind the first
  have H2 : Hid (∀ (n : Nat) (W : World), n < qs.length → OpenV W bb g cap cnt (qs.take (qs.length - n)) (tags.take (qs.length - n)) → Mv (· = bb) w W → Calls Tryz.prog 58 #[.pointer (some ⟨bb, 0, none⟩), .func (.func 106) #[] #[], .func (.func 107) #[] #[]] W (RClose w bb g (qs.length - (n + closeC isLi stLi (tags.reverse.drop n))) cap cnt)) := qh (fun n W hn hW k => by
    refine (close_any hW (fn_Li W) (fn_stLi W)).mono ?_
    rintro e W2 ⟨h1, h2, h3⟩
    have e1 : tags.take (qs.length - n) = tags.take (tags.length - n) := by rw [HH.out.len]
    rw [e1, drop_rev, List.length_take, Nat.min_eq_left (by omega), Nat.sub_sub] at h3
    exact ⟨h1, k.trans h2, h3⟩)
  by_cases hl : clsT tag = 3 ∨ clsT tag = 2
  · have hlT : lineT tag = true := by unfold lineT; rcases hl with hl | hl <;> (rw [hl]; rfl)
    -- the first close
    have H1 : Hid (∀ (W : World), Ext w W → W.cell? ⟨w.heap.size, 0, none⟩ = some (.func (.func 102) #[] #[]) → Calls Tryz.prog 58 #[.pointer (some ⟨bb, 0, none⟩), .func (.func 103) #[] #[], .func (.func 105) #[] #[.pointer (some ⟨w.heap.size, 0, none⟩)]] W fun e W2 =>
        RClose w bb g (qs.length - closeC isPH stPH tags.reverse) cap cnt e W2 ∧ OpenV W2 bb g cap cnt (qs.take (qs.length - closeC isPH stPH tags.reverse)) (tags.take (qs.length - closeC isPH stPH tags.reverse))) := qh (fun W x hc => by
      refine (close_any (HH.out.ext x) (fn_PH W) (fn_stPH hc)).mono ?_
      rintro e W2 ⟨h1, h2, h3⟩
      exact ⟨⟨h1, Mv.after x h2, h3⟩, (HH.out.ext x).closed h2 h3 (by have := HLT.out; omega) (by omega)⟩)
    obtain ⟨c, hc⟩ : ∃ c, closeC isPH stPH tags.reverse = c := ⟨_, rfl⟩
    rw [hc] at H1 HLT
    by_cases h9 : tag = 9
    · have ea : aheadC tag tags.reverse = c + closeC isLi stLi (tags.reverse.drop c) := by unfold aheadC; dsimp only; rw [hlT, if_pos rfl, if_pos h9, hc]
      rw [ea]
      subst h9
      have e3 : clsT 9 = 3 := by decide
      rw [e3] at HCL
      clear hlt hl hlT ea hc h e3
      have cw := cellOf hb0 (i := 0) (v := .func (.func 102) #[] #[]) rfl
      have X0 := qh x0
      clear hb0 x0
      go_enter Tryz.func62, Tryz.ntmps62
      go_wp2_with (go_at_call 64; refine (HCL.out _).mono ?_)
      rintro e w1 ⟨rfl, x1⟩
      have cw1 := x1.cell cw
      have X1 := qh (X0.out.trans x1)
      clear cw x1
      go_wp2_with (go_at_call 58; refine (H1.out _ X1.out cw1).mono ?_)
      rintro e w2 ⟨⟨rfl, k2, hb2⟩, hO2⟩
      have K2 := qh (And.intro k2 hO2)
      clear k2 hb2 hO2 cw1
      go_wp2_with (go_at_call 58; refine (H2.out c _ HLT.out K2.out.2 K2.out.1).mono ?_)
      rintro e w3 ⟨rfl, k3, hb3⟩
      have K3 := qh (And.intro k3 hb3)
      clear k3 hb3
      go_wp2_with fail
      go_end0
      exact ⟨rfl, K3.out.1, K3.out.2⟩
    · have ea : aheadC tag tags.reverse = c := by unfold aheadC; dsimp only; rw [hlT, if_pos rfl, if_neg h9, hc]
      rw [ea]
      have d9 : (tag == 9) = false := by simpa using h9
      clear hlt hlT ea hc h h9
      have cw := cellOf hb0 (i := 0) (v := .func (.func 102) #[] #[]) rfl
      have X0 := qh x0
      clear hb0 x0
      rcases hl with hl | hl
      all_goals
        rw [hl] at HCL
        clear hl
        go_enter Tryz.func62, Tryz.ntmps62
        go_wp2_with (go_at_call 64; refine (HCL.out _).mono ?_)
        rintro e w1 ⟨rfl, x1⟩
        have cw1 := x1.cell cw
        have X1 := qh (X0.out.trans x1)
        clear cw x1
        go_wp2_with (go_at_call 58; refine (H1.out _ X1.out cw1).mono ?_)
        rintro e w2 ⟨⟨rfl, k2, hb2⟩, hO2⟩
        have K2 := qh (And.intro k2 hb2)
        clear k2 hb2 hO2 cw1
        go_wp2_with fail
        go_end0
        exact ⟨rfl, K2.out.1, K2.out.2⟩
  · have hlT : lineT tag = false := by
      unfold lineT
      rw [show (clsT tag == 3) = false by simp; exact fun e => hl (.inl e), show (clsT tag == 2) = false by simp; exact fun e => hl (.inr e)]
      rfl
    have h9 : tag ≠ 9 := by rintro rfl; exact hl (.inl (by decide))
    have ea : aheadC tag tags.reverse = 0 := by unfold aheadC; dsimp only; rw [hlT, if_neg h9]; rfl
    rw [ea, Nat.sub_zero]
    have d9 : (tag == 9) = false := by simpa using h9
    obtain ⟨c, hc⟩ : ∃ c, clsT tag = c := ⟨_, rfl⟩
    rw [hc] at HCL hl
    have d3 : (c == 3) = false := by simp; exact fun e => hl (.inl e)
    have d2 : (c == 2) = false := by simp; exact fun e => hl (.inr e)
    clear hlt hlT ea hc h h9 hl hb0
    have X0 := qh x0
    clear x0
    go_enter Tryz.func62, Tryz.ntmps62
    go_wp2_with (go_at_call 64; refine (HCL.out _).mono ?_)
    rintro e w1 ⟨rfl, x1⟩
    have X1 := qh (X0.out.trans x1)
    clear x1
    go_wp2_with fail
    go_end0
    exact ⟨rfl, Mv.ofExt X1.out, X1.out.block HH.out.blk⟩
end
theorem fits_any {w : World} {bb g cap cnt : Nat} {qs : List Nat} {tags : List Int} (h : OpenV w bb g cap (.int .i64 (cnt : Int)) qs tags) (tag : Int) : Calls Tryz.prog 61 #[.pointer (some ⟨bb, 0, none⟩), .int .i64 tag] w (RBool (roomB cnt (qs.length - aheadC tag tags.reverse)) w) := by
  have hb := cellOf h.blk (i := 0) (v := .slice (some ⟨g, 0, none⟩) qs.length cap) rfl
  have hc := cellOf h.blk (i := 1) (v := .int .i64 (cnt : Int)) rfl
  have HH := qh h
  have HCLO := qh (fun (W : World) (x : Ext w W) => cloneE_any (g := g) (cap := cap) (qs := qs) (w := W) rfl h.pos h.most (h.ext x).row)
  obtain ⟨n, hn⟩ : ∃ n, qs.length = n := ⟨_, rfl⟩
  have HN := qh hn
  rw [hn] at hb HCLO ⊢
  have HAC := qh (show aheadC tag tags.reverse < n by
    have h1 := (aheadZ_eq tag (tags.reverse.map fun t => ⟨t, [], []⟩) (by intro e; have h2 := congrArg List.length e; simp at h2; have h3 := h.pos; have h4 := h.len; rw [h2] at h4; simp at h4; omega)).2
    have h2 : tagsZ (tags.reverse.map fun t => (⟨t, [], []⟩ : ZF)) = tags.reverse := by unfold tagsZ; rw [List.map_map]; simp [Function.comp_def]
    rw [h2, List.length_map, List.length_reverse, h.len, hn] at h1
    exact h1)
  clear h hn
  go_enter Tryz.func61, Tryz.ntmps61
  go_upto_region 1 with fail
  go_region_held3 (fun w' => w'.cell? ⟨bb, 0, none⟩ = some (.slice (some ⟨g, 0, none⟩) n cap) ∧ w'.cell? ⟨bb, 1, none⟩ = some (.int .i64 (cnt : Int)))
    (first | exact ⟨hb, hc⟩ | exact ⟨hx1.cell hb, hx1.cell hc⟩ | go_keep)
    (first | (go_at_call 101; refine (HCLO.out _ (by first | exact Ext.refl _ | exact (Ext.refl _).drew)).mono ?_; rintro e w1 ⟨v, rfl, hr, hx1⟩; have HR := qh hr; have HX1 : Hid (Ext w w1) := qh (by first | exact hx1 | exact (Ext.refl _).drew.trans hx1); obtain ⟨al, cl, rfl, hcl⟩ := RowRd.len_of (RowP.rd hr); clear hr))
  have HO : Hid (∃ g2, al = some ⟨g2, 0, none⟩ ∧ OpenV (w1.alloc (.cells #[.slice (some ⟨g2, 0, none⟩) n cl, .int .i64 (cnt : Int)] 53)) w1.heap.size g2 cl (.int .i64 (cnt : Int)) qs tags) := qh (by
    have hpos := HH.out.pos
    rcases HR.out.2 with ⟨h0, _⟩ | ⟨g2, cap2, cur, h1, h2, h3, h4, h5, h6, h7⟩
    · exact absurd h0 (by have := HN.out; omega)
    · have e1 : al = some ⟨g2, 0, none⟩ := by injection h1
      have e2 : cl = cap2 := by injection h1
      subst e2
      have hlt : g2 < w1.heap.size := (Array.getElem?_eq_some_iff.1 h3).1
      have xA := (Ext.refl w1).alloc (.cells #[.slice (some ⟨g2, 0, none⟩) n cl, .int .i64 (cnt : Int)] 53)
      have hO := HH.out.ext (HX1.out.trans xA)
      refine ⟨g2, e1, ⟨by rw [HN.out]; exact heap_alloc_new _ _, fun j q hj => ?_, hO.tag, hO.len, hO.pos, hO.most, by rw [HN.out]; exact h4, rfl, ⟨Nat.ne_of_lt hlt, Nat.lt_of_lt_of_le hlt xA.size, by simp⟩, fun j q hj e => ?_⟩⟩
      · refine xA.cell (cellOf h3 ?_)
        rw [Nat.mul_one] at h7
        have hj2 : (qs.map ptrV)[j]? = some (ptrV q) := by rw [List.getElem?_map, hj]; rfl
        rw [← h7, List.getElem?_take] at hj2
        split at hj2
        · simpa using hj2
        · cases hj2
      · obtain ⟨t, ht⟩ : ∃ t, tags[j]? = some t := ⟨tags[j]'(by rw [HH.out.len]; exact (List.getElem?_eq_some_iff.1 hj).1), by simp⟩
        have h8 := World.block_lt_of_cell? _ _ (HX1.out.cell (HH.out.tag j q t hj ht))
        have h9 : q < w1.heap.size := h8
        omega)
  obtain ⟨g2, rfl, hO⟩ := HO.out
  have XA := qh (HX1.out.alloc (.cells #[.slice (some ⟨g2, 0, none⟩) n cl, .int .i64 (cnt : Int)] 53))
  have HS := qh HX1.out.size
  obtain ⟨cb, hcb⟩ : ∃ cb, w1.heap.size = cb := ⟨_, rfl⟩
  rw [hcb] at hO HS ⊢
  generalize w1.alloc (.cells #[.slice (some ⟨g2, 0, none⟩) n cl, .int .i64 (cnt : Int)] 53) = wA at hO XA ⊢
  have HO2 := qh hO
  clear hO HR hcb hb hc
  try clear hHeld
  rename_i hHeld
  clear hHeld
  go_wp2_with (go_at_call 62; refine (ahead_any HO2.out tag).mono ?_)
  rintro e w2 ⟨rfl, k2, hb2⟩
  have HO3 := qh (HO2.out.closed k2 hb2 (by have h1 := HAC.out; have h2 := HN.out; omega) (by omega))
  have X2 := qh (k2.toExt XA.out (fun b hb => by subst hb; exact HS.out))
  have HRM : Hid (Calls Tryz.prog 99 #[.pointer (some ⟨cb, 0, none⟩)] w2 (RBool (roomB cnt (n - aheadC tag tags.reverse)) w2)) := qh (by
    have h1 := room_any HO3.out
    rw [List.length_take, Nat.min_eq_left (by omega), HN.out] at h1
    exact h1)
  clear k2 hb2
  go_wp2_with (go_at_call 99; refine HRM.out.mono ?_)
  rintro e w3 ⟨rfl, x3⟩
  go_wp2_with fail
  go_ret
  exact ⟨rfl, X2.out.trans x3⟩
section
variable {g0 w w' : World} {own : Ow} {l : List FrM} {m : FrM}
theorem snoc_old {l : List FrM} {m m' x : FrM} {j : Nat} (hj : (l ++ [m'])[j]? = some x) : (j < l.length ∧ (l ++ [m])[j]? = some x) ∨ (j = l.length ∧ x = m') := by
  rcases Nat.lt_trichotomy j l.length with h1 | h1 | h1
  · rw [List.getElem?_append_left h1] at hj
    exact .inl ⟨h1, by rw [List.getElem?_append_left h1]; exact hj⟩
  · subst h1
    rw [List.getElem?_append_right (Nat.le_refl _), Nat.sub_self] at hj
    exact .inr ⟨rfl, (Option.some.inj hj).symm⟩
  · rw [List.getElem?_eq_none (by simp; omega)] at hj
    cases hj
theorem snoc_last (l : List FrM) (m : FrM) : (l ++ [m])[l.length]? = some m := by simp
theorem ptrs_snoc {l : List FrM} {m m' : FrM} (hq : m'.q = m.q) {j : Nat} {x : FrM} (hj : j < l.length) : ptrs (l ++ [m']) j x = ptrs (l ++ [m]) j x := by
  unfold ptrs
  rcases Nat.lt_or_ge (j + 1) l.length with h1 | h1
  · rw [List.getElem?_append_left h1, List.getElem?_append_left h1]
  · have hj1 : j + 1 = l.length := by omega
    rw [hj1, snoc_last, snoc_last]
    simp [hq]
theorem BAt.leaf (h : BAt g0 w own (l ++ [m])) {ob : Option Nat} {kv' : Value} {q : Nat} {tag : Int} {attrs : List AttrB} {av : Value} {text : ByteArray}
    (k : Mv (fun g => g = m.q ∨ own g = some (l.length, 1)) w w') (hm : w'.heap[m.q]? = some (.cells (elC m.f.tag m.av ⟨#[]⟩ kv') 51 (0, 0)))
    (hr : RowP w' (fun g => ob = some g) 48 1 kv' (m.ps.length + 1) (m.ps.map ptrV ++ [ptrV q])) (ho : ∀ g, ob = some g → own g = some (l.length, 1) ∨ (own g = none ∧ w.heap.size ≤ g ∧ g < w'.heap.size))
    (hq : w'.heap[q]? = some (.cells (elC tag av text (.slice none 0 0)) 51 (0, 0))) (hqn : own q = none) (hq1 : w.heap.size ≤ q) (hob : ob ≠ some q) (ha : RowP g0 (fun _ => True) 104 2 av attrs.length (attrCells attrs)) (hg0 : g0.heap.size ≤ w.heap.size) :
    ∃ own', BAt g0 w' own' (l ++ [⟨m.q, m.f.put (.mk tag attrs text []), m.av, kv', m.ps ++ [q]⟩]) ∧ (∀ g, own' g ≠ none → own g ≠ none ∨ (w.heap.size ≤ g ∧ g < w'.heap.size ∧ (g = q ∨ ob = some g))) ∧ own' q ≠ none := by
  have hml := snoc_last l m
  obtain ⟨own', hown⟩ : ∃ own' : Ow, own' = fun g => if g = q then some (l.length, m.ps.length + 2) else if ob = some g then some (l.length, 1) else own g := ⟨_, rfl⟩
  have hkeep : ∀ {g x}, own g = some x → own' g = some x := fun {g x} hg => by
    rw [hown]
    dsimp only
    rw [if_neg (by rintro rfl; rw [hqn] at hg; cases hg)]
    split
    · rename_i hb
      rcases ho g hb with h1 | h1
      · rw [← hg, h1]
      · rw [h1.1] at hg; cases hg
    · exact hg
  have hoq : own' q = some (l.length, m.ps.length + 2) := by rw [hown]; exact if_pos rfl
  have hK : ∀ {g a b}, own g = some (a, b) → (a, b) ≠ (l.length, 0) → (a, b) ≠ (l.length, 1) → ¬ (g = m.q ∨ own g = some (l.length, 1)) := fun {g a b} hg h1 h2 => by
    rintro (rfl | h3)
    · rw [(h.blk _ m hml).1] at hg; injection hg with hg; exact h1 hg.symm
    · rw [h3] at hg; injection hg with hg; exact h2 hg.symm
  refine ⟨own', ⟨fun j x hj => ?_, fun j x hj => ?_, fun j x i p n hj hp hn => ?_, fun j x hj => ?_, fun j x hj => ?_, fun g hg => ?_⟩, fun g hg => ?_, by rw [hoq]; simp⟩
  · rcases snoc_old (m := m) hj with ⟨h1, h2⟩ | ⟨rfl, rfl⟩
    · have hb := h.blk j x h2
      exact ⟨hkeep hb.1, k.block hb.2 (hK hb.1 (by simp; omega) (by simp))⟩
    · exact ⟨hkeep (h.blk _ m hml).1, hm⟩
  · rcases snoc_old (m := m) hj with ⟨h1, h2⟩ | ⟨rfl, rfl⟩
    · rw [ptrs_snoc (m := m) (m' := ⟨m.q, m.f.put (.mk tag attrs text []), m.av, kv', m.ps ++ [q]⟩) rfl h1]
      have hb := h.row j x h2
      exact ⟨(hb.1.mv k fun g hg => hK hg (by simp) (by simp; omega)).imp fun g _ hg => hkeep hg, hb.2⟩
    · rw [ptrs_last (by simp)]
      refine ⟨?_, fun e => by simp at e⟩
      have : RowP w' (fun g => ob = some g) 48 1 kv' (m.ps ++ [q]).length ((m.ps ++ [q]).map ptrV) := by simpa using hr
      refine this.imp fun g _ hg => ?_
      rcases ho g hg with h1 | h1
      · exact hkeep h1
      · rw [hown]; dsimp only; rw [if_neg (by rintro rfl; exact hob hg), if_pos hg]
  · rcases snoc_old (m := m) hj with ⟨h1, h2⟩ | ⟨rfl, rfl⟩
    · exact ((h.kid j x i p n h2 hp hn).mv k fun g hg => hK hg (by simp) (by simp)).imp fun g hg => hkeep hg
    · have hp2 : (m.ps ++ [q])[i]? = some p := hp
      have hn2 : (m.f.kids ++ [.mk tag attrs text []])[i]? = some n := hn
      have hlen := h.len _ m hml
      rcases Nat.lt_or_ge i m.ps.length with h1 | h1
      · rw [List.getElem?_append_left h1] at hp2
        rw [List.getElem?_append_left (by omega)] at hn2
        exact ((h.kid _ m i p n hml hp2 hn2).mv k fun g hg => hK hg (by simp) (by simp)).imp fun g hg => hkeep hg
      · have hi : i = m.ps.length := by
          have := (List.getElem?_eq_some_iff.1 hp2).1
          simp only [List.length_append, List.length_singleton] at this
          omega
        subst hi
        rw [List.getElem?_append_right (Nat.le_refl _), Nat.sub_self] at hp2
        rw [hlen, List.getElem?_append_right (Nat.le_refl _), Nat.sub_self] at hn2
        cases hp2
        cases hn2
        exact .leaf hq hoq ha
  · rcases snoc_old (m := m) hj with ⟨h1, h2⟩ | ⟨rfl, rfl⟩
    · exact h.len j x h2
    · show (m.ps ++ [q]).length = (m.f.kids ++ [_]).length
      have := h.len _ m hml
      simp [this]
  · rcases snoc_old (m := m) hj with ⟨h1, h2⟩ | ⟨rfl, rfl⟩
    · exact h.att j x h2
    · exact h.att _ m hml
  · rw [hown] at hg
    dsimp only at hg
    split at hg
    · rename_i e; subst e; exact ⟨by omega, (Array.getElem?_eq_some_iff.1 hq).1⟩
    · split at hg
      · rename_i e
        rcases ho g e with h1 | h1
        · have := h.low g (by rw [h1]; simp); exact ⟨this.1, Nat.lt_of_lt_of_le this.2 k.size⟩
        · exact ⟨by omega, h1.2.2⟩
      · have := h.low g hg; exact ⟨this.1, Nat.lt_of_lt_of_le this.2 k.size⟩
  · rw [hown] at hg
    dsimp only at hg
    split at hg
    · rename_i e; subst e; exact .inr ⟨hq1, (Array.getElem?_eq_some_iff.1 hq).1, .inl rfl⟩
    · split at hg
      · rename_i e
        rcases ho g e with h1 | h1
        · exact .inl (by rw [h1]; simp)
        · exact .inr ⟨h1.2.1, h1.2.2, .inr e⟩
      · exact .inl hg
theorem BAt.text (h : BAt g0 w own (l ++ [m])) {p : Nat} {ps : List Nat} {ks : List PN} {attrs : List AttrB} {text t' : ByteArray} (hp : m.ps = ps ++ [p]) (hn : m.f.kids = ks ++ [.mk 0 attrs text []]) :
    own p = some (l.length, ps.length + 2) ∧ w.cell? ⟨p, 2, none⟩ = some (.string text) ∧ w.cell? ⟨p, 0, none⟩ = some (.int .i64 0) ∧ w.frozen? ⟨p, 2, none⟩ = false ∧
    BAt g0 (w.setCell ⟨p, 2, none⟩ (.string t')) own (l ++ [⟨m.q, ⟨m.f.tag, m.f.attrs, ks ++ [.mk 0 attrs t' []]⟩, m.av, m.kv, m.ps⟩]) := by
  have hml := snoc_last l m
  have hlen := h.len _ m hml
  rw [hp, hn] at hlen
  have hpk : ps.length = ks.length := by simpa using hlen
  have he := h.kid _ m ps.length p (.mk 0 attrs text []) hml (by rw [hp]; simp) (by rw [hn, hpk]; simp)
  obtain ⟨av, kv, ps2, hb, hS, ha, hr, hnil, hl2, _⟩ := he.open
  rw [hnil rfl] at hb
  have k : Mv (· = p) w (w.setCell ⟨p, 2, none⟩ (.string t')) := (Mv.refl (· = p) w).setCell (p := ⟨p, 2, none⟩) (fun _ => rfl) _
  have hb2 := heap_setCell_same (i := 2) hb (.string t')
  have hK : ∀ {g x}, own g = some x → x ≠ (l.length, ps.length + 2) → ¬ g = p := fun {g x} hg hx e => by subst e; rw [hS] at hg; injection hg with hg; exact hx hg.symm
  refine ⟨hS, cellOf hb rfl, cellOf hb rfl, freeOf hb 2, ⟨fun j x hj => ?_, fun j x hj => ?_, fun j x i p' n hj hp' hn' => ?_, fun j x hj => ?_, fun j x hj => ?_, fun g hg => ?_⟩⟩
  · rcases snoc_old (m := m) hj with ⟨h1, h2⟩ | ⟨rfl, rfl⟩
    · have hb := h.blk j x h2
      exact ⟨hb.1, k.block hb.2 (hK hb.1 (by simp))⟩
    · have hb := h.blk _ m hml
      exact ⟨hb.1, k.block hb.2 (hK hb.1 (by simp))⟩
  · rcases snoc_old (m := m) hj with ⟨h1, h2⟩ | ⟨rfl, rfl⟩
    · rw [ptrs_snoc (m := m) (m' := ⟨m.q, ⟨m.f.tag, m.f.attrs, ks ++ [PN.mk 0 attrs t' []]⟩, m.av, m.kv, m.ps⟩) rfl h1]
      have hb := h.row j x h2
      exact ⟨hb.1.mv k fun g hg => hK hg (by simp), hb.2⟩
    · have hb := h.row _ m hml
      rw [ptrs_last (by simp)] at hb
      rw [ptrs_last (by simp)]
      exact ⟨hb.1.mv k fun g hg => hK hg (by simp), hb.2⟩
  · rcases snoc_old (m := m) hj with ⟨h1, h2⟩ | ⟨rfl, rfl⟩
    · exact (h.kid j x i p' n h2 hp' hn').mv k fun g hg => hK hg (by simp; omega)
    · have hp2 : m.ps[i]? = some p' := hp'
      have hn2 : (ks ++ [.mk 0 attrs t' []])[i]? = some n := hn'
      rcases Nat.lt_or_ge i ks.length with h1 | h1
      · rw [List.getElem?_append_left h1] at hn2
        exact (h.kid _ m i p' n hml hp2 (by rw [hn, List.getElem?_append_left h1]; exact hn2)).mv k fun g hg => hK hg (by simp; omega)
      · have hi : i = ks.length := by
          have := (List.getElem?_eq_some_iff.1 hn2).1
          simp only [List.length_append, List.length_singleton] at this
          omega
        subst hi
        rw [List.getElem?_append_right (Nat.le_refl _), Nat.sub_self] at hn2
        rw [hp, ← hpk, List.getElem?_append_right (Nat.le_refl _), Nat.sub_self] at hp2
        cases hp2
        cases hn2
        rw [← hpk]
        exact .leaf hb2 hS ha
  · rcases snoc_old (m := m) hj with ⟨h1, h2⟩ | ⟨rfl, rfl⟩
    · exact h.len j x h2
    · show m.ps.length = (ks ++ [_]).length
      rw [hp]; simp [hpk]
  · rcases snoc_old (m := m) hj with ⟨h1, h2⟩ | ⟨rfl, rfl⟩
    · exact h.att j x h2
    · exact h.att _ m hml
  · have := h.low g hg; exact ⟨this.1, Nat.lt_of_lt_of_le this.2 k.size⟩
theorem BAt.push (h : BAt g0 w own (l ++ [m])) {q : Nat} {ps : List Nat} {ks : List PN} {tag : Int} {attrs : List AttrB} (hp : m.ps = ps ++ [q]) (hn : m.f.kids = ks ++ [.mk tag attrs ⟨#[]⟩ []]) :
    ∃ own' av, BAt g0 w own' ((l ++ [⟨m.q, ⟨m.f.tag, m.f.attrs, ks⟩, m.av, m.kv, ps⟩]) ++ [⟨q, ⟨tag, attrs, []⟩, av, .slice none 0 0, []⟩]) ∧ (∀ g, own' g ≠ none ↔ own g ≠ none) := by
  have hml := snoc_last l m
  have hlen := h.len _ m hml
  rw [hp, hn] at hlen
  have hpk : ps.length = ks.length := by simpa using hlen
  have he := h.kid _ m ps.length q (.mk tag attrs ⟨#[]⟩ []) hml (by rw [hp]; simp) (by rw [hn, hpk]; simp)
  obtain ⟨av, kv, ps2, hb, hS, ha, hr, hnil, hl2, _⟩ := he.open
  rw [hnil rfl] at hb
  obtain ⟨own', hown⟩ : ∃ own' : Ow, own' = fun g => if g = q then some (l.length + 1, 0) else own g := ⟨_, rfl⟩
  have hkeep : ∀ {g x}, own g = some x → x ≠ (l.length, ps.length + 2) → own' g = some x := fun {g x} hg hx => by
    rw [hown]
    dsimp only
    rw [if_neg (by rintro rfl; rw [hS] at hg; injection hg with hg; exact hx hg.symm)]
    exact hg
  have hoq : own' q = some (l.length + 1, 0) := by rw [hown]; exact if_pos rfl
  have hnn : ∀ g, own' g ≠ none ↔ own g ≠ none := fun g => by
    rw [hown]
    dsimp only
    split
    · rename_i e; subst e; simp [hS]
    · exact Iff.rfl
  have hlen2 : (l ++ [(⟨m.q, ⟨m.f.tag, m.f.attrs, ks⟩, m.av, m.kv, ps⟩ : FrM)]).length = l.length + 1 := by simp
  -- a frame of the new row
  have hpart : ∀ {j : Nat} {x : FrM}, ((l ++ [(⟨m.q, ⟨m.f.tag, m.f.attrs, ks⟩, m.av, m.kv, ps⟩ : FrM)]) ++ [⟨q, ⟨tag, attrs, []⟩, av, .slice none 0 0, []⟩])[j]? = some x → (j < l.length ∧ (l ++ [m])[j]? = some x) ∨ (j = l.length ∧ x = ⟨m.q, ⟨m.f.tag, m.f.attrs, ks⟩, m.av, m.kv, ps⟩) ∨ (j = l.length + 1 ∧ x = ⟨q, ⟨tag, attrs, []⟩, av, .slice none 0 0, []⟩) := fun {j x} hj => by
    rcases snoc_old (m := m) hj with ⟨h1, h2⟩ | ⟨h1, h2⟩
    · rw [List.getElem?_append_left h1] at h2
      rcases snoc_old (m := m) h2 with h3 | h3
      · exact .inl h3
      · exact .inr (.inl h3)
    · exact .inr (.inr ⟨h1.trans hlen2, h2⟩)
  have hptr : ∀ {j : Nat} {x : FrM}, j < l.length → ptrs ((l ++ [(⟨m.q, ⟨m.f.tag, m.f.attrs, ks⟩, m.av, m.kv, ps⟩ : FrM)]) ++ [⟨q, ⟨tag, attrs, []⟩, av, .slice none 0 0, []⟩]) j x = ptrs (l ++ [m]) j x := fun {j x} hj => by
    unfold ptrs
    rw [List.getElem?_append_left (by rw [hlen2]; omega)]
    rcases Nat.lt_or_ge (j + 1) l.length with h1 | h1
    · rw [List.getElem?_append_left h1, List.getElem?_append_left h1]
    · have hj1 : j + 1 = l.length := by omega
      rw [hj1, snoc_last, snoc_last]
  refine ⟨own', av, ⟨fun j x hj => ?_, fun j x hj => ?_, fun j x i p' n hj hp' hn' => ?_, fun j x hj => ?_, fun j x hj => ?_, fun g hg => h.low g ((hnn g).1 hg)⟩, hnn⟩
  · rcases hpart hj with ⟨h1, h2⟩ | ⟨rfl, rfl⟩ | ⟨rfl, rfl⟩
    · have hb := h.blk j x h2
      exact ⟨hkeep hb.1 (by simp), hb.2⟩
    · have hb := h.blk _ m hml
      exact ⟨hkeep hb.1 (by simp), hb.2⟩
    · exact ⟨hoq, hb⟩
  · rcases hpart hj with ⟨h1, h2⟩ | ⟨rfl, rfl⟩ | ⟨rfl, rfl⟩
    · rw [hptr h1]
      have hb := h.row j x h2
      exact ⟨hb.1.imp fun g _ hg => hkeep hg (by simp), hb.2⟩
    · have hb := h.row _ m hml
      rw [ptrs_last (by simp), hp] at hb
      have hpe : ptrs ((l ++ [(⟨m.q, ⟨m.f.tag, m.f.attrs, ks⟩, m.av, m.kv, ps⟩ : FrM)]) ++ [⟨q, ⟨tag, attrs, []⟩, av, .slice none 0 0, []⟩]) l.length ⟨m.q, ⟨m.f.tag, m.f.attrs, ks⟩, m.av, m.kv, ps⟩ = ps ++ [q] := by
        unfold ptrs
        rw [← hlen2, snoc_last]
      rw [hpe]
      exact ⟨hb.1.imp fun g _ hg => hkeep hg (by simp), fun e => by simp at e⟩
    · rw [ptrs_last (by simp)]
      exact ⟨⟨rfl, .inl ⟨rfl, none, rfl⟩⟩, fun _ => rfl⟩
  · rcases hpart hj with ⟨h1, h2⟩ | ⟨rfl, rfl⟩ | ⟨rfl, rfl⟩
    · exact (h.kid j x i p' n h2 hp' hn').imp fun g hg => hkeep hg (by simp; omega)
    · have hp2 : ps[i]? = some p' := hp'
      have hn2 : ks[i]? = some n := hn'
      have hi := (List.getElem?_eq_some_iff.1 hp2).1
      exact (h.kid _ m i p' n hml (by rw [hp, List.getElem?_append_left hi]; exact hp2) (by rw [hn, List.getElem?_append_left (by omega)]; exact hn2)).imp fun g hg => hkeep hg (by simp; omega)
    · exact absurd hp' (by show ¬ ([] : List Nat)[i]? = some p'; simp)
  · rcases hpart hj with ⟨h1, h2⟩ | ⟨rfl, rfl⟩ | ⟨rfl, rfl⟩
    · exact h.len j x h2
    · exact hpk
    · rfl
  · rcases hpart hj with ⟨h1, h2⟩ | ⟨rfl, rfl⟩ | ⟨rfl, rfl⟩
    · exact h.att j x h2
    · exact h.att _ m hml
    · exact ha
end
structure BX (g0 w : World) (F : Nat → Prop) (bb : Nat) (own : Ow) (l : List FrM) (ov : Value) (ob : Option Nat) (b : BZ) : Prop where
  at_ : BAt g0 w own l
  blk : w.heap[bb]? = some (.cells #[ov, .int .i64 (b.cnt : Int)] 53 (0, 0))
  nob : own bb = none
  row : RowP w (fun g => ob = some g) 48 1 ov l.length (l.map fun m => ptrV m.q)
  rowb : ∀ g, ob = some g → own g = none ∧ g ≠ bb ∧ g0.heap.size ≤ g ∧ g < w.heap.size ∧ F g
  z : b.z = zOf l
  ne : l ≠ []
  inF : ∀ g, own g ≠ none → F g
  bbF : F bb
  bbg : g0.heap.size ≤ bb
  old : Ext g0 w
section
variable {g0 w w' : World} {F : Nat → Prop} {bb : Nat} {own : Ow} {l : List FrM} {ov : Value} {ob : Option Nat} {b : BZ}
theorem BX.mv (h : BX g0 w F bb own l ov ob b) {K : Nat → Prop} (k : Mv K w w') (hK : ∀ g, F g → ¬ K g) (ho : Ext g0 w') : BX g0 w' F bb own l ov ob b :=
  ⟨h.at_.mv k fun g hg => hK g (h.inF g hg), k.block h.blk (hK _ h.bbF), h.nob, h.row.mv k fun g hg => hK g (h.rowb g hg).2.2.2.2, fun g hg => ⟨(h.rowb g hg).1, (h.rowb g hg).2.1, (h.rowb g hg).2.2.1, Nat.lt_of_lt_of_le (h.rowb g hg).2.2.2.1 k.size, (h.rowb g hg).2.2.2.2⟩, h.z, h.ne, h.inF, h.bbF, h.bbg, ho⟩
theorem BX.ext (h : BX g0 w F bb own l ov ob b) (x : Ext w w') : BX g0 w' F bb own l ov ob b := h.mv (K := fun _ => False) (Mv.ofExt x) (fun _ _ h => h) (h.old.trans x)
theorem BX.len (h : BX g0 w F bb own l ov ob b) : b.z.length = l.length := by rw [h.z, zOf_len]
theorem BX.tags (h : BX g0 w F bb own l ov ob b) : (l.map fun m => m.f.tag).reverse = tagsZ b.z := by
  rw [h.z]
  unfold zOf tagsZ
  rw [List.map_reverse, List.map_map]
  rfl
theorem BX.view (h : BX g0 w F bb own l ov ob b) (hl : b.z.length ≤ 60000) : ∃ g cap, ob = some g ∧ ov = .slice (some ⟨g, 0, none⟩) l.length cap ∧ OpenV w bb g cap (.int .i64 (b.cnt : Int)) (l.map FrM.q) (l.map fun m => m.f.tag) := by
  have hlen := h.len
  have hpos : 0 < l.length := List.length_pos_iff.2 h.ne
  rcases h.row.2 with ⟨h0, _⟩ | ⟨g, cap, cur, h1, h2, h3, h4, h5, h6, h7⟩
  · omega
  · have hb := h.rowb g h2
    have hget : ∀ (j : Nat) q, (l.map FrM.q)[j]? = some q → ∃ m, l[j]? = some m ∧ m.q = q := fun j q hj => by
      rw [List.getElem?_map] at hj
      cases hm : l[j]? with
      | none => rw [hm] at hj; cases hj
      | some m => rw [hm] at hj; exact ⟨m, rfl, by simpa using hj⟩
    refine ⟨g, cap, h2, h1, ?_, fun j q hj => ?_, fun j q t hj ht => ?_, by simp, by simpa using hpos, by simp; omega, by simpa using h4, rfl, ⟨hb.2.1, hb.2.2.2.1, (Array.getElem?_eq_some_iff.1 h.blk).1⟩, fun j q hj e => ?_⟩
    · rw [List.length_map, ← h1]; exact h.blk
    · obtain ⟨m, hm, rfl⟩ := hget j q hj
      refine cellOf h3 ?_
      rw [Nat.mul_one] at h7
      have hj2 : (l.map fun m => ptrV m.q)[j]? = some (ptrV m.q) := by rw [List.getElem?_map, hm]; rfl
      rw [← h7, List.getElem?_take] at hj2
      split at hj2
      · simpa using hj2
      · cases hj2
    · obtain ⟨m, hm, rfl⟩ := hget j q hj
      rw [List.getElem?_map, hm] at ht
      cases ht
      exact cellOf (h.at_.blk j m hm).2 rfl
    · obtain ⟨m, hm, rfl⟩ := hget j q hj
      have := (h.at_.blk j m hm).1
      rw [e, h.nob] at this
      cases this
theorem BX.snoc (h : BX g0 w F bb own l ov ob b) : ∃ l' m, l = l' ++ [m] := ⟨l.dropLast, l.getLast h.ne, (List.dropLast_concat_getLast _).symm⟩
theorem BX.close (h : BX g0 w F bb own l ov ob b) {g cap n : Nat} (hov : ov = .slice (some ⟨g, 0, none⟩) l.length cap) (hob : ob = some g) (hn : n < l.length) (k : Mv (· = bb) w w') (hb : w'.heap[bb]? = some (.cells #[.slice (some ⟨g, 0, none⟩) (l.length - n) cap, .int .i64 (b.cnt : Int)] 53 (0, 0))) :
    ∃ own' l' ov', BX g0 w' F bb own' l' ov' ob ⟨popN n b.z, b.cnt⟩ := by
  have k2 : BAt g0 w' own l := h.at_.mv k fun x hx e => by subst e; exact hx h.nob
  obtain ⟨own', l', a1, a2, a3, a4⟩ := BAt.popN n own l k2 hn
  have hl' : l'.length = l.length - n := by
    have := congrArg List.length a4
    simp only [List.length_map, List.length_take] at this
    omega
  have hnone : ∀ x, own x = none → own' x = none := fun x hx => Decidable.byContradiction fun e => (a2 x).1 e hx
  refine ⟨own', l', _, a1, hb, hnone _ h.nob, ?_, fun x hx => ?_, by rw [h.z]; exact a3.symm, by intro e; rw [e] at hl'; simp at hl'; omega, fun x hx => h.inF x ((a2 x).1 hx), h.bbF, h.bbg, ?_⟩
  · rcases h.row.2 with ⟨h0, _⟩ | ⟨g1, cap1, cur, h1, h2, h3, h4, h5, h6, h7⟩
    · omega
    · rw [hov] at h1
      have e1 : g = g1 := by injection h1 with h1 _ _; injection h1 with h1; injection h1
      have e2 : cap = cap1 := by injection h1
      subst e1; subst e2
      have em : (l'.map fun m => ptrV m.q) = (l.map fun m => ptrV m.q).take (l.length - n) := by
        have := congrArg (List.map ptrV) a4
        rw [List.map_take, List.map_map, List.map_map] at this
        exact this
      refine ⟨by simp, .inr ⟨g, cap, cur, by rw [hl'], h2, k.block h3 (fun e => by have := (h.rowb g hob).2.1; exact this e), by omega, h5, h6, ?_⟩⟩
      rw [Nat.mul_one] at h7 ⊢
      rw [em, ← h7, List.take_take, hl', Nat.min_eq_left (by omega)]
  · have := h.rowb x hx
    exact ⟨hnone x this.1, this.2.1, this.2.2.1, Nat.lt_of_lt_of_le this.2.2.2.1 k.size, this.2.2.2.2⟩
  · exact k.toExt h.old (fun x hx => by subst hx; exact h.bbg)
end
end Go.Proofs.YtalaajbajgdglaaGreatDoor
