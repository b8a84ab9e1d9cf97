/- Package print: node: a node's markup behind what the printer holds. Conditions: at most 10^14 bytes. -/
import Derived.Test.YtdafdoodegpdhaaDoorPD
import Derived.Test.YtdafdoodegpdhaaDoorPG
namespace Go.Proofs.YtdafdoodegpdhaaDoor
open Go Go.RowKit Go.BigFrame
set_option linter.unusedVariables false
set_option linter.unusedSimpArgs false

theorem PrA.ext {B b : Nat} {p : Value} {l : List Value} {w w' : World} (h : PrA B b p l w) (k : Ext w w') : PrA B b p l w' := by
  obtain ⟨hB, v, hb, hown, hne⟩ := h
  refine ⟨hB, v, k.block hb, ⟨hown.1, ?_⟩, hne⟩
  rcases hown.2 with hn | ⟨g, cap, cur, fz, hv, hbg, hg, rest⟩
  · exact .inl hn
  · exact .inr ⟨g, cap, cur, fz, hv, hbg, k.block hg, rest⟩
theorem PrF.ext {B b : Nat} {l : List Value} {w w' : World} (h : PrF B b l w) (k : Ext w w') : PrF B b l w' :=
  h.elim (fun x => .inl (PrA.ext x k)) (fun x => .inr (PrA.ext x k))
theorem Kept.node {b : Nat} {w w' : World} (h : Kept b w w') {k : Nat} {cs : Array Value} {fr : Nat × Nat} (hk : w.heap[k]? = some (.cells cs 25 fr)) (hb : k ≠ b) : w'.heap[k]? = some (.cells cs 25 fr) :=
  h k _ hk (fun e => hb (Option.some.inj e)) (fun _ _ e => by cases e)
theorem strCells_bytes (s : ByteArray) : Lib.strCells s = Lib.byteCells s.data.toList := rfl
theorem RowRd.attr {w : World} {a : Addr} {l : List (ByteArray × ByteArray)} {cap n : Nat} (h : RowRd w 2 (.slice (some a) n cap) n (attrCells l)) {k : Nat} {p : ByteArray × ByteArray} (hk : l[k]? = some p) :
    w.cell? (a.add (k * 2)) = some (.string p.1) ∧ w.cell? (a.add (k * 2 + 1)) = some (.string p.2) := by
  obtain ⟨_, ao, cap', e, _, _, hc⟩ := h
  cases e
  obtain ⟨e1, e2⟩ := attrCells_at l k p hk
  exact ⟨hc _ rfl _ _ e1, hc _ rfl _ _ e2⟩
theorem Kept.attr {b : Nat} {w w' : World} (h : Kept b w w') {k : Nat} {cs : Array Value} {fr : Nat × Nat} (hk : w.heap[k]? = some (.cells cs 55 fr)) (hb : k ≠ b) : w'.heap[k]? = some (.cells cs 55 fr) :=
  h k _ hk (fun e => hb (Option.some.inj e)) (fun _ _ e => by cases e)
/-- behind what is written -/
def Wrote (B b : Nat) (l : List UInt8) (w : World) (e : Ending) (w' : World) : Prop := ∃ m : Nat, e = .returned (.tuple #[.int .i64 m, .nilIface]) ∧ Printed B b l w (.returned (.tuple #[])) w'
theorem Write_any (B b : Nat) (acc : List UInt8) (s : ByteArray) (l : List UInt8) (hs : acc ++ s.data.toList = l) (w : World) (h : PrF B b (Lib.byteCells acc) w) (hlen : acc.length + s.size ≤ 140737488355328) (hBw : B ≤ w.heap.size) :
    Calls Tryd.prog 39 #[.pointer (some ⟨b, 0, none⟩), .string s] w (Wrote B b l w) :=
  (WriteString_k B b _ s w h (by rw [Lib.byteCells_length]; exact hlen) hBw).mono fun e w' hh => ⟨s.size, hh.1, rfl, by rw [← hs, Lib.byteCells_append]; exact .inr hh.2.1, hh.2.2.1, hh.2.2.2⟩
/-- the rest of an element's markup, behind so many attributes -/
def tailM (n : PN) (nm : List UInt8) (c : Int) (k : Nat) : List UInt8 := (n.attrs.drop k).flatMap attrM ++ [62] ++ if c = 5 then [] else PN.outers n.kids ++ ([60, 47] ++ nm ++ [62])
/-- a state of node's walk: the markup so far, the frame, the boxed node -/
structure St (w0 w : World) (b : Nat) (cs : Array Value) (acc : List UInt8) (u : World) : Prop where
  pr : PrF w0.heap.size b (Lib.byteCells acc) u
  below : Below w0.heap.size w u
  kept : Kept b w u
  box : u.heap[w.heap.size]? = some (.cells cs 25 (0, 0))
  ext : Ext w0 u
theorem St.more {w0 w u u' : World} {b : Nat} {cs : Array Value} {acc : List UInt8} (h : St w0 w b cs acc u) (x : Ext u u') : St w0 w b cs acc u' :=
  ⟨h.pr.ext x, h.below.trans (Below.mono x (Below.size h.ext)), h.kept.trans (Kept.ext x), x.block h.box, h.ext.trans x⟩
theorem St.printed {w0 w u u' : World} {b : Nat} {cs : Array Value} {acc acc' : List UInt8} (h : St w0 w b cs acc u) (hb : b < w.heap.size) {e : Ending} (k : Printed w0.heap.size b acc' u e u') : St w0 w b cs acc' u' :=
  ⟨k.2.1, h.below.trans k.2.2.1, h.kept.trans k.2.2.2, k.2.2.2.node h.box (by omega), Below.trans h.ext k.2.2.1⟩
theorem St.len {w0 w u : World} {b : Nat} {cs : Array Value} {acc : List UInt8} (h : St w0 w b cs acc u) : (Lib.byteCells acc).length = acc.length := Lib.byteCells_length _
def costA (l : List (ByteArray × ByteArray)) : Nat := (l.map fun p => p.1.size + 6 * p.2.size + 4).sum
theorem costA_len (l : List (ByteArray × ByteArray)) : l.length ≤ costA l := by
  induction l with
  | nil => simp
  | cons x r ih => simp only [costA, List.map_cons, List.sum_cons, List.length_cons] at ih ⊢; omega
theorem costA_drop {l : List (ByteArray × ByteArray)} {k : Nat} {p : ByteArray × ByteArray} (h : l[k]? = some p) : l.drop k = p :: l.drop (k + 1) ∧ costA (l.drop k) = p.1.size + 6 * p.2.size + 4 + costA (l.drop (k + 1)) := by
  obtain ⟨hk, e⟩ := List.getElem?_eq_some_iff.1 h
  have : l.drop k = p :: l.drop (k + 1) := by rw [← e]; exact List.drop_eq_getElem_cons hk
  refine ⟨this, ?_⟩
  rw [this]; simp [costA]
set_option maxHeartbeats 1000000 in
set_option maxRecDepth 100000 in
theorem node_of {w0 : World} {n : PN} (hin : InnerOk w0 n) : NodeOk w0 n := by
  intro b acc w v hr hx hp hc
  obtain ⟨av, kv, rfl, ha, hk⟩ := hr.open
  obtain ⟨ao, ac, rfl, hac⟩ := ha.len_of
  obtain ⟨ka, kc, rfl, hk1, hk2, hk3, hk4⟩ := hk
  clear hk1 hk2 hk3 hk4
  have hbl := hp.lt
  have hbB : w0.heap.size ≤ b := hp.elim (fun x => x.1) (fun x => x.1)
  have hws := hx.size
  obtain ⟨out, ho⟩ : ∃ out, acc ++ n.outer = out := ⟨_, rfl⟩
  rw [ho]
  rw [PN.outer_eq] at ho
  rw [PN.cost_eq] at hc
  have HO := Lib.hid ho
  have HC := Lib.hid hc
  have HR := Lib.hid hr
  have HA := Lib.hid ha
  have HIN := Lib.hid hin
  have HX := Lib.hid hx
  have x1 := hx.alloc (.cells #[.int .i64 n.tag, .slice ao n.attrs.length ac, .string n.text, .slice ka n.kids.length kc] 25)
  have hb := heap_alloc_new w (.cells #[.int .i64 n.tag, .slice ao n.attrs.length ac, .string n.text, .slice ka n.kids.length kc] 25)
  have p1 := hp.box (.cells #[.int .i64 n.tag, .slice ao n.attrs.length ac, .string n.text, .slice ka n.kids.length kc] 25)
  have k1 : Kept b w (w.alloc (.cells #[.int .i64 n.tag, .slice ao n.attrs.length ac, .string n.text, .slice ka n.kids.length kc] 25)) := Kept.ext ((Ext.refl w).alloc _)
  have b1 : Below w0.heap.size w (w.alloc (.cells #[.int .i64 n.tag, .slice ao n.attrs.length ac, .string n.text, .slice ka n.kids.length kc] 25)) := (Below.refl _ w).alloc hx.size _
  clear ho hc hr ha hin hx hp
  go_enter Tryd.func27, Tryd.ntmps27
  go_upto_region 1 with fail
  obtain ⟨wb, hwb⟩ : ∃ wb : World, wb = w.alloc (.cells #[.int .i64 n.tag, .slice ao n.attrs.length ac, .string n.text, .slice ka n.kids.length kc] 25) := ⟨_, rfl⟩
  have hwbs : w.heap.size < wb.heap.size := by rw [hwb]; simp
  rw [← hwb] at x1 hb p1 k1 b1
  rw [← hwb]
  clear hwb
  have n0 := cellOf hb (i := 0) (v := .int .i64 n.tag) rfl
  have HBX := Lib.hid hb
  have HP := Lib.hid p1
  have HK := Lib.hid k1
  have HB := Lib.hid b1
  have HX1 := Lib.hid x1
  have HWS := Lib.hid hwbs
  clear hb p1 k1 b1 x1 hwbs
  go_wp2_with fail
  refine (Class_any _ n.tag).mono ?_
  rintro e w1 ⟨rfl, y1⟩
  have hb := y1.block HBX.out
  have P1 := Lib.hid (HP.out.ext y1)
  have K1 := Lib.hid (HK.out.trans (Kept.ext y1))
  have B1 := Lib.hid (HB.out.trans (Below.mono y1 HX1.out.size))
  have X1 := Lib.hid (HX1.out.trans' (Below.mono y1 HX1.out.size))
  have S1 := Lib.hid (Nat.lt_of_lt_of_le HWS.out y1.size)
  have BX1 := Lib.hid hb
  have n0 := cellOf hb (i := 0) (v := .int .i64 n.tag) rfl
  have n1 := cellOf hb (i := 1) (v := .slice ao n.attrs.length ac) rfl
  have n2 := cellOf hb (i := 2) (v := .string n.text) rfl
  have n3 := cellOf hb (i := 3) (v := .slice ka n.kids.length kc) rfl
  clear hb y1
  obtain ⟨c, hcl⟩ : ∃ c, clsT n.tag = c := ⟨_, rfl⟩
  rw [hcl]
  have HO2 := HO.out
  rw [hcl] at HO2
  have HO3 := Lib.hid HO2
  clear HO2
  have CL := Lib.hid hcl
  clear hcl
  rcases tagB c with hc0 | hc0
  · -- no tag
    have e0 : c = 0 := by simpa using hc0
    have t0 : ¬ n.tag = 0 := fun e => by have := CL.out; rw [e, e0] at this; exact absurd this (by decide)
    have eo : acc ++ PN.outers n.kids = out := by rw [← HO3.out, if_neg t0, if_pos e0]
    have hcall := HIN.out b acc w1 _ HR.out X1.out P1.out (by have := HC.out; omega)
    rw [show n.inner = PN.outers n.kids from if_neg t0, eo] at hcall
    have HCALL := Lib.hid hcall
    clear hcall
    go_wp2_with fail
    refine HCALL.out.mono ?_
    rintro e w2 ⟨rfl, h1, b1, k1⟩
    go_wp2
    go_end0
    exact ⟨rfl, h1, B1.out.trans b1, K1.out.trans k1⟩
  have hc1 : (c == 1) = true ∨ (c == 1) = false := by cases h : (c == 1); exact .inr rfl; exact .inl rfl
  rcases hc1 with hc1 | hc1
  · -- a text
    have e1 : c = 1 := by simpa using hc1
    have t0 : n.tag = 0 := by
      have := CL.out
      rw [e1] at this
      unfold clsT at this
      repeat' split at this
      all_goals first | omega | assumption
    have eo : acc ++ esc false n.text = out := by rw [← HO3.out, if_pos t0]
    have hcall := chars_any w0.heap.size b acc n.text false w1 P1.out (by have := HC.out; omega) X1.out.size
    rw [eo] at hcall
    have HCALL := Lib.hid hcall
    clear hcall
    go_wp2_with fail
    refine HCALL.out.mono ?_
    rintro e w2 ⟨rfl, h1, b1, k1⟩
    go_wp2
    go_end0
    exact ⟨rfl, h1, B1.out.trans b1, K1.out.trans k1⟩
  -- an element
  have e0 : ¬ c = 0 := by simpa using hc0
  have t0 : ¬ n.tag = 0 := fun e => by
    have := CL.out
    rw [e] at this
    have h1 : ¬ c = 1 := by simpa using hc1
    exact h1 (this.symm.trans (by decide))
  have eo : acc ++ (60 :: (nameT n.tag).data.toList ++ tailM n (nameT n.tag).data.toList c 0) = out := by
    rw [← HO3.out, if_neg t0, if_neg e0]
    simp only [tailM, List.drop_zero, List.append_assoc]
  have nml := nameT_len n.tag
  have HEO := Lib.hid eo
  have T0 := Lib.hid t0
  clear eo e0 t0
  have s1 : St w0 w b #[.int .i64 n.tag, .slice ao n.attrs.length ac, .string n.text, .slice ka n.kids.length kc] acc w1 := ⟨P1.out, B1.out, K1.out, BX1.out, X1.out⟩
  have SS1 := Lib.hid s1
  clear s1 HP HK HB HX1 HWS HBX K1 B1
  go_wp2_with fail
  refine (Name_any _ n.tag).mono ?_
  rintro e w2 ⟨rfl, y2⟩
  have s2 := SS1.out.more y2
  have S2 := Lib.hid s2
  have n1 := cellOf s2.box (i := 1) (v := .slice ao n.attrs.length ac) rfl
  clear n0 n1 n2 n3 y2
  obtain ⟨nm, hnm⟩ : ∃ nm, nameT n.tag = nm := ⟨_, rfl⟩
  rw [hnm] at nml ⊢
  have EO := HEO.out
  rw [hnm] at EO
  have HEO2 := Lib.hid EO
  clear EO hnm
  have nms : nm.size ≤ 10 := nml
  have hac1 : acc.length + costA n.attrs + 27 + PN.costs n.kids ≤ 100000000000000 := by have := HC.out; unfold costA; omega
  have HAC := Lib.hid hac1
  have hl1 : acc.length + (⟨#[60]⟩ ++ nm : ByteArray).size ≤ 140737488355328 := by rw [ByteArray.size_append]; show acc.length + (1 + nm.size) ≤ _; omega
  go_wp2_with fail
  refine (Write_any _ b acc _ (acc ++ 60 :: nm.data.toList) (by simp) _ s2.pr hl1 s2.ext.size).mono ?_
  rintro e w3 ⟨m3, rfl, hw⟩
  have s3 := S2.out.printed hbl hw
  have S3 := Lib.hid s3
  have n1 := cellOf s3.box (i := 1) (v := .slice ao n.attrs.length ac) rfl
  clear hw s2 hl1 hac1 s3
  go_wp2_with fail
  have hcar : acc.length + 11 + costA n.attrs + 16 + PN.costs n.kids ≤ 100000000000000 := by have := HAC.out; omega
  have hfit : acc ++ 60 :: nm.data.toList ++ tailM n nm.data.toList c 0 = out := by rw [← HEO2.out]; simp
  have hlen : (acc ++ 60 :: nm.data.toList).length + costA (n.attrs.drop 0) + 16 + PN.costs n.kids ≤ 100000000000000 := by
    rw [List.length_append, List.drop_zero, List.length_cons]
    have : nm.data.toList.length = nm.size := rfl
    have := HAC.out
    omega
  have hatl : n.attrs.length ≤ 100000000000000 := by have := costA_len n.attrs; have := HAC.out; omega
  have HFIT := Lib.hid hfit
  have HLEN := Lib.hid hlen
  clear hcar hfit hlen
  go_loopw [7, 35] (fun _ i wr => ∃ (k : Nat) (ac' : List UInt8), k ≤ n.attrs.length ∧ i = .int .i64 k ∧ St w0 w b #[.int .i64 n.tag, .slice ao n.attrs.length ac, .string n.text, .slice ka n.kids.length kc] ac' wr ∧ ac' ++ tailM n nm.data.toList c k = out ∧ ac'.length + costA (n.attrs.drop k) + 16 + PN.costs n.kids ≤ 100000000000000) (fun _ i _ => n.attrs.length - (intOf i).toNat)
  case atStart => exact ⟨0, acc ++ 60 :: nm.data.toList, Nat.zero_le _, rfl, S3.out, HFIT.out, HLEN.out⟩
  case round =>
    obtain ⟨k, ac', hk, rfl, sr, hfit, hlen⟩ := hrel
    by_cases hlt : k < n.attrs.length
    · obtain ⟨p, hp⟩ : ∃ p, n.attrs[k]? = some p := ⟨n.attrs[k], by simp [hlt]⟩
      cases ao with
      | none =>
        obtain ⟨_, ao', cap', e, _, h0, _⟩ := HA.out
        cases e
        exact absurd (h0 rfl).1 (by omega)
      | some a =>
        obtain ⟨bk, off, sp⟩ := a
        have hra : RowRd wr 2 (.slice (some ⟨bk, off, sp⟩) n.attrs.length ac) n.attrs.length (attrCells n.attrs) := HA.out.ext sr.ext
        obtain ⟨q0, q1⟩ := hra.attr hp
        rw [add_later _ _ _ (by decide)] at q1
        obtain ⟨hd1, hd2⟩ := costA_drop hp
        have hfit2 : ac' ++ ((32 :: p.1.data.toList ++ [61, 34]) ++ (esc true p.2 ++ ([34] ++ tailM n nm.data.toList c (k + 1)))) = out := by
          rw [← hfit]; unfold tailM; rw [hd1, List.flatMap_cons, attrM]; simp
        have HF2 := Lib.hid hfit2
        have hl2 : ac'.length + (p.1.size + 6 * p.2.size + 4) + costA (n.attrs.drop (k + 1)) + 16 + PN.costs n.kids ≤ 100000000000000 := by rw [hd2] at hlen; omega
        have HL2 := Lib.hid hl2
        have SR := Lib.hid sr
        have xb := (Ext.refl wr).alloc (.cells #[.string p.1, .string p.2] 55)
        have bb := heap_alloc_new wr (.cells #[.string p.1, .string p.2] 55)
        clear hfit hlen hfit2 hl2 sr hd1 hd2 hra hp
        go_upto_region 12 with fail
        obtain ⟨wz, hwz⟩ : ∃ wz : World, wz = wr.alloc (.cells #[.string p.1, .string p.2] 55) := ⟨_, rfl⟩
        rw [← hwz] at xb bb ⊢
        have hne : wr.heap.size ≠ b := by
          have := SR.out.below.size
          have := hbl
          omega
        clear hwz q0 q1
        have c0 := cellOf bb (i := 0) (v := .string p.1) rfl
        have BB := Lib.hid bb
        have SZ := Lib.hid (SR.out.more (xb.drew))
        clear xb bb
        have hw1 : ac'.length + (⟨#[32]⟩ ++ p.1 ++ ⟨#[61, 34]⟩ : ByteArray).size ≤ 140737488355328 := by rw [ByteArray.size_append, ByteArray.size_append]; show ac'.length + (1 + p.1.size + 2) ≤ _; have := HL2.out; omega
        have HW1 := Lib.hid hw1
        clear hw1
        have hz1 : (⟨#[32]⟩ : ByteArray).size + p.1.size ≤ 9223372036854775807 := by show 1 + p.1.size ≤ _; have := HL2.out; omega
        have hz2 : (⟨#[32]⟩ ++ p.1 : ByteArray).size + (⟨#[61, 34]⟩ : ByteArray).size ≤ 9223372036854775807 := by rw [ByteArray.size_append]; show 1 + p.1.size + 2 ≤ _; have := HL2.out; omega
        have e1 : ∀ W : World, (Op.stringOp .add ⟨#[32]⟩ p.1).run Tryd.prog W = .ok (.string (⟨#[32]⟩ ++ p.1)) W := fun W => run_string_add_sum W _ _ hz1
        have e2 : ∀ W : World, (Op.stringOp .add (⟨#[32]⟩ ++ p.1) ⟨#[61, 34]⟩).run Tryd.prog W = .ok (.string (⟨#[32]⟩ ++ p.1 ++ ⟨#[61, 34]⟩)) W := fun W => run_string_add_sum W _ _ hz2
        go_region_held3 (fun w' => w'.cell? ⟨wr.heap.size, 0, none⟩ = some (.string p.1)) (first | exact c0 | exact hkeep | go_keep)
          ((go_at_call 39; refine (Write_any _ b ac' _ (ac' ++ (32 :: p.1.data.toList ++ [61, 34])) (by simp) _ SZ.out.pr HW1.out SZ.out.ext.size).mono ?_; rintro e wA ⟨mA, rfl, hw⟩; have bA := hw.2.2.2.attr (show wz.drew.heap[wr.heap.size]? = _ from BB.out) hne; have SA := Lib.hid (SZ.out.printed hbl hw); have hkeep := cellOf bA (i := 0) (v := .string p.1) rfl; have c1 := cellOf bA (i := 1) (v := .string p.2) rfl; clear hw bA))
        have HLA : (ac' ++ (32 :: p.1.data.toList ++ [61, 34])).length = ac'.length + p.1.size + 3 := by
          have : p.1.data.toList.length = p.1.size := rfl
          simp only [List.length_append, List.length_cons, List.length_nil]; omega
        have HCH := Lib.hid (chars_any w0.heap.size b (ac' ++ (32 :: p.1.data.toList ++ [61, 34])) p.2 true wA SA.out.pr (by rw [HLA]; have := HL2.out; omega) SA.out.ext.size)
        clear c0 e1 e2 hz1 hz2
        go_wp2_with (go_at_call 49; refine HCH.out.mono ?_)
        rintro e wB ⟨rfl, hw2⟩
        have SB := SA.out.printed hbl (e := .returned (.tuple #[])) ⟨rfl, hw2⟩
        have SBH := Lib.hid SB
        have hlB : (ac' ++ (32 :: p.1.data.toList ++ [61, 34]) ++ esc true p.2).length + (⟨#[34]⟩ : ByteArray).size ≤ 140737488355328 := by
          rw [List.length_append, HLA]
          have := esc_len true p.2
          have := HL2.out
          show _ + 1 ≤ _
          omega
        clear hw2 c1 hkeep
        go_wp2_with (go_at_call 39; refine (Write_any _ b _ _ (ac' ++ (32 :: p.1.data.toList ++ [61, 34]) ++ esc true p.2 ++ [34]) rfl _ SB.pr hlB SB.ext.size).mono ?_)
        rintro e wC ⟨mC, rfl, hw3⟩
        have SC := Lib.hid (SBH.out.printed hbl hw3)
        clear hw3 SB hlB
        go_wp2_with fail
        go_roundw
        case rel =>
          refine ⟨k + 1, ac' ++ (32 :: p.1.data.toList ++ [61, 34]) ++ esc true p.2 ++ [34], by omega, by go_num, SC.out, by rw [← HF2.out]; simp, ?_⟩
          rw [List.length_append, List.length_append, HLA]
          have := esc_len true p.2
          have := HL2.out
          show _ + _ + 1 + _ + 16 + _ ≤ _
          omega
        case measure => simp [intOf]; omega
    · obtain rfl : k = n.attrs.length := by omega
      have SR := Lib.hid sr
      rw [List.drop_length] at hlen
      have ht : tailM n nm.data.toList c n.attrs.length = 62 :: if c = 5 then [] else PN.outers n.kids ++ ([60, 47] ++ nm.data.toList ++ [62]) := by unfold tailM; rw [List.drop_length]; simp
      rw [ht] at hfit
      have HFT := Lib.hid hfit
      have HLN := Lib.hid (show ac'.length + 16 + PN.costs n.kids ≤ 100000000000000 by simp [costA] at hlen; omega)
      have hlD : ac'.length + (⟨#[62]⟩ : ByteArray).size ≤ 140737488355328 := by show _ + 1 ≤ _; have := HLN.out; omega
      clear hfit hlen ht
      go_wp2_with (go_at_call 39; refine (Write_any _ b _ _ (ac' ++ [62]) rfl _ sr.pr hlD sr.ext.size).mono ?_)
      rintro e wD ⟨mD, rfl, hw4⟩
      have sd := SR.out.printed hbl hw4
      have SD := Lib.hid sd
      clear hw4 sr hlD
      have hc5 : (c == 5) = true ∨ (c == 5) = false := by cases h : (c == 5); exact .inr rfl; exact .inl rfl
      rcases hc5 with hc5 | hc5
      · have e5 : c = 5 := by simpa using hc5
        have eo : ac' ++ [62] = out := by rw [← HFT.out, if_pos e5]
        clear sd
        go_wp2_with fail
        go_end0
        rw [← eo]
        exact ⟨rfl, SD.out.pr, SD.out.below, SD.out.kept⟩
      · have e5 : ¬ c = 5 := by simpa using hc5
        have eo : ac' ++ [62] ++ PN.outers n.kids ++ (60 :: 47 :: nm.data.toList ++ [62]) = out := by rw [← HFT.out, if_neg e5]; simp
        have EO5 := Lib.hid eo
        have n0 := cellOf sd.box (i := 0) (v := .int .i64 n.tag) rfl
        have n1 := cellOf sd.box (i := 1) (v := .slice ao n.attrs.length ac) rfl
        have n2 := cellOf sd.box (i := 2) (v := .string n.text) rfl
        have n3 := cellOf sd.box (i := 3) (v := .slice ka n.kids.length kc) rfl
        have hcall := HIN.out b (ac' ++ [62]) wD _ HR.out sd.ext sd.pr (by rw [List.length_append]; show _ + 1 + _ ≤ _; have := HLN.out; omega)
        rw [show n.inner = PN.outers n.kids from if_neg T0.out] at hcall
        have HCALL := Lib.hid hcall
        clear hcall sd eo e5
        go_wp2_with (go_at_call 32; refine HCALL.out.mono ?_)
        rintro e wE ⟨rfl, hw5⟩
        have se := SD.out.printed hbl (e := .returned (.tuple #[])) ⟨rfl, hw5⟩
        have SE := Lib.hid se
        have hle : (ac' ++ [62] ++ PN.outers n.kids).length ≤ ac'.length + 1 + PN.costs n.kids := by
          have := PN.outers_len (l := n.kids) fun z _ => z.outer_len
          rw [List.length_append, List.length_append]; show _ + 1 + _ ≤ _; omega
        have hz1 : (⟨#[60, 47]⟩ : ByteArray).size + nm.size ≤ 9223372036854775807 := by show 2 + nm.size ≤ _; omega
        have hz2 : (⟨#[60, 47]⟩ ++ nm : ByteArray).size + (⟨#[62]⟩ : ByteArray).size ≤ 9223372036854775807 := by rw [ByteArray.size_append]; show 2 + nm.size + 1 ≤ _; omega
        have hlE : (ac' ++ [62] ++ PN.outers n.kids).length + (⟨#[60, 47]⟩ ++ nm ++ ⟨#[62]⟩ : ByteArray).size ≤ 140737488355328 := by
          rw [ByteArray.size_append, ByteArray.size_append]
          show _ + (2 + nm.size + 1) ≤ _
          have := HLN.out
          omega
        have HLE := Lib.hid hlE
        have e1 : ∀ W : World, (Op.stringOp .add ⟨#[60, 47]⟩ nm).run Tryd.prog W = .ok (.string (⟨#[60, 47]⟩ ++ nm)) W := fun W => run_string_add_sum W _ _ hz1
        have e2 : ∀ W : World, (Op.stringOp .add (⟨#[60, 47]⟩ ++ nm) ⟨#[62]⟩).run Tryd.prog W = .ok (.string (⟨#[60, 47]⟩ ++ nm ++ ⟨#[62]⟩)) W := fun W => run_string_add_sum W _ _ hz2
        clear hw5 n0 n1 n2 n3 hle hlE se
        go_wp2_with (go_at_call 39; refine (Write_any _ b _ _ out (by rw [← EO5.out]; simp) _ SE.out.pr HLE.out SE.out.ext.size).mono ?_)
        rintro e wF ⟨mF, rfl, hw6⟩
        have SF := Lib.hid (SE.out.printed hbl hw6)
        clear hw6
        go_wp2_with fail
        go_end0
        exact ⟨rfl, SF.out.pr, SF.out.below, SF.out.kept⟩
/-- every node is printed -/
theorem node_any (w0 : World) : ∀ n : PN, NodeOk w0 n := by
  refine PN.induct _ fun n ih => node_of (inner_of ih)
theorem inner_any (w0 : World) (n : PN) : InnerOk w0 n := inner_of fun k _ => node_any w0 k
end Go.Proofs.YtdafdoodegpdhaaDoor
