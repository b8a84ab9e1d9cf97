/- PrintParts: the markup of a node is that of its kids, one behind the other; unlike normal nodes have unlike markup: the walk. Conditions: the tables of unicode/utf8 are as laid. -/
import Derived.Test.YtdafdoodegpdhaaDoorPZ
import Derived.Test.YtdafdoodegpdhaaDoorPI
namespace Go.Proofs.YtdafdoodegpdhaaDoor
open Go Go.RowKit Go.BigFrame
set_option linter.unusedVariables false
set_option linter.unusedSimpArgs false

/-- all that is asked of a node -/
structure Told (wz : World) (n : PN) (v : Value) (b : Bool) (s : ByteArray) : Prop where
  tabs : Tabs wz
  rd : RdN wz n v
  light : n.light = true
  cost : n.cost ≤ 100000000000000
  whole : n.whole = b
  inner : (⟨n.inner.toArray⟩ : ByteArray) = s
theorem t_normal {wz : World} {n : PN} {v : Value} {b : Bool} {s : ByteArray} (t : Told wz n v b s) (u : ExtOf wz) : Calls Tryd.prog 15 #[v] u.val (RBool b u.val) :=
  t.whole ▸ Normal_any u.val n v (t.tabs.ext u.ext) (t.rd.cells u.ext.cells) t.light t.cost
theorem t_inner {wz : World} {n : PN} {v : Value} {b : Bool} {s : ByteArray} (t : Told wz n v b s) (u : ExtOf wz) : Calls Tryd.prog 13 #[v] u.val (RVal (.string s) u.val) :=
  t.inner ▸ Inner_any u.val n v (t.rd.cells u.ext.cells) t.cost
theorem t_same {wz : World} {n m : PN} {v v' : Value} {b b' : Bool} {s s' : ByteArray} (t : Told wz n v b s) (t' : Told wz m v' b' s') (u : ExtOf wz) : Calls Tryd.prog 17 #[v, v'] u.val (RBool (same n m) u.val) :=
  SameNode_any n (PN.light_fair n t.light) m (PN.light_fair m t'.light) u.val v v' (t.rd.cells u.ext.cells) (t'.rd.cells u.ext.cells)
theorem Told.more {wz wz' : World} {n : PN} {v : Value} {b : Bool} {s : ByteArray} (t : Told wz n v b s) (x : Ext wz wz') : Told wz' n v b s := ⟨t.tabs.ext x, t.rd.cells x.cells, t.light, t.cost, t.whole, t.inner⟩
theorem fit_cost {n : PN} (h : n.fit) (k : n.size ≤ 2500) : n.cost ≤ 100000000000000 := by
  have := h.2
  have : n.size * 400000 ≤ 2500 * 400000 := Nat.mul_le_mul_right _ k
  omega
theorem inner_len (n : PN) : n.inner.length ≤ n.cost := by
  have h := PN.outers_len (l := n.kids) fun z _ => z.outer_len
  unfold PN.inner
  rw [PN.cost_eq]
  split
  · simp
  · omega
set_option maxHeartbeats 4000000 in
set_option maxRecDepth 100000 in
theorem parts_walk (w : World) (hT : Tabs w) (n m : PN) (vn vm : Value) (hn : RdN w n vn) (hm : RdN w m vm) : Calls Tryd.prog 4 #[vn, vm] w (RBool true w) := by
  obtain ⟨av, kv, rfl, ha, hk⟩ := hn.open
  obtain ⟨y1, y2, rfl, _⟩ := ha.len_of
  obtain ⟨y3, y4, rfl, hk1, hk2, hk3, hk4⟩ := hk
  obtain ⟨z1, z2, z3, z4, rfl⟩ := hm.shape
  have HK3 := Lib.hid hk3
  have HK4 := Lib.hid hk4
  unfold maxLen at hk2
  clear hk3 hk4 ha
  have x1 := ((Ext.refl w).alloc (.cells #[.int .i64 n.tag, .slice y1 n.attrs.length y2, .string n.text, .slice y3 n.kids.length y4] 25))
  have bb := heap_alloc_new w (.cells #[.int .i64 n.tag, .slice y1 n.attrs.length y2, .string n.text, .slice y3 n.kids.length y4] 25)
  have HN := Lib.hid hn
  have HM := Lib.hid hm
  have HT := Lib.hid hT
  clear hn hm hT
  go_enter Tryd.func4, Tryd.ntmps4
  go_upto_region 1 with fail
  obtain ⟨w1, hw1⟩ : ∃ w1 : World, w1 = w.alloc (.cells #[.int .i64 n.tag, .slice y1 n.attrs.length y2, .string n.text, .slice y3 n.kids.length y4] 25) := ⟨_, rfl⟩
  have hsz : w1.heap.size = w.heap.size + 1 := by rw [hw1]; simp
  rw [← hw1] at x1 bb ⊢
  clear hw1
  have x2 := x1.alloc (.cells #[.int .i64 m.tag, .slice z1 m.attrs.length z2, .string m.text, .slice z3 m.kids.length z4] 25)
  have b2 := ((Ext.refl w1).alloc (.cells #[.int .i64 m.tag, .slice z1 m.attrs.length z2, .string m.text, .slice z3 m.kids.length z4] 25)).block bb
  have a2 := heap_alloc_new w1 (.cells #[.int .i64 m.tag, .slice z1 m.attrs.length z2, .string m.text, .slice z3 m.kids.length z4] 25)
  rw [hsz] at a2
  obtain ⟨w2, hw2⟩ : ∃ w2 : World, w2 = w1.alloc (.cells #[.int .i64 m.tag, .slice z1 m.attrs.length z2, .string m.text, .slice z3 m.kids.length z4] 25) := ⟨_, rfl⟩
  rw [← hw2] at x2 b2 a2 ⊢
  clear hw2 hsz bb x1
  have n0 := cellOf b2 (i := 0) (v := .int .i64 n.tag) rfl
  have n1 := cellOf b2 (i := 1) (v := .slice y1 n.attrs.length y2) rfl
  have n2 := cellOf b2 (i := 2) (v := .string n.text) rfl
  have n3 := cellOf b2 (i := 3) (v := .slice y3 n.kids.length y4) rfl
  have X2 := Lib.hid x2
  have BN := Lib.hid b2
  have BM := Lib.hid a2
  have HH := Lib.hid (heavy_any n _ w2 (HN.out.cells x2.cells))
  clear x2 b2 a2
  go_wp2_with (go_at_call 8; refine HH.out.mono ?_)
  rintro e w3 ⟨bn, rfl, hbn, x3⟩
  have X3 := Lib.hid (X2.out.trans x3)
  have X23 := Lib.hid x3
  have HBN := Lib.hid hbn
  clear hbn n0 n1 n2 n3
  cases bn with
  | true =>
    clear x3
    go_wp2_with (go_at_call 9; refine (awake_any _ (HT.out.ext X3.out)).mono ?_)
    rintro e w4 ⟨rfl, x4⟩
    go_wp2_with fail
    go_ret
    exact ⟨rfl, X3.out.trans x4⟩
  | false =>
    have m0 := x3.cell (cellOf BM.out (i := 0) (v := .int .i64 m.tag) rfl)
    have m1 := x3.cell (cellOf BM.out (i := 1) (v := .slice z1 m.attrs.length z2) rfl)
    have m2 := x3.cell (cellOf BM.out (i := 2) (v := .string m.text) rfl)
    have m3 := x3.cell (cellOf BM.out (i := 3) (v := .slice z3 m.kids.length z4) rfl)
    have HH2 := Lib.hid (heavy_any m _ w3 (HM.out.cells X3.out.cells))
    clear x3
    go_wp2_with (go_at_call 8; refine HH2.out.mono ?_)
    rintro e w4 ⟨bm, rfl, hbm, x4⟩
    have X4 := Lib.hid (X3.out.trans x4)
    have X24 := Lib.hid (X23.out.trans x4)
    have HBM := Lib.hid hbm
    clear hbm m0 m1 m2 m3 x4
    cases bm with
    | true =>
      go_wp2_with (go_at_call 9; refine (awake_any _ (HT.out.ext X4.out)).mono ?_)
      rintro e w5 ⟨rfl, x5⟩
      go_wp2_with fail
      go_ret
      exact ⟨rfl, X4.out.trans x5⟩
    | false =>
      obtain ⟨fn1, fn2⟩ := HBN.out (by first | rfl | trivial)
      obtain ⟨fm1, fm2⟩ := HBM.out (by first | rfl | trivial)
      have cn := fit_cost fn1 fn2
      have cm := fit_cost fm1 fm2
      obtain ⟨wn, hwn⟩ : ∃ b, n.whole = b := ⟨_, rfl⟩
      obtain ⟨wm, hwm⟩ : ∃ b, m.whole = b := ⟨_, rfl⟩
      obtain ⟨sn, hsn⟩ : ∃ s : ByteArray, (⟨n.inner.toArray⟩ : ByteArray) = s := ⟨_, rfl⟩
      obtain ⟨sm, hsm⟩ : ∃ s : ByteArray, (⟨m.inner.toArray⟩ : ByteArray) = s := ⟨_, rfl⟩
      have TN := Lib.hid (Told.mk (wz := w4) (n := n) (HT.out.ext X4.out) (HN.out.cells X4.out.cells) fn1.1 cn hwn hsn)
      have TM := Lib.hid (Told.mk (wz := w4) (n := m) (HT.out.ext X4.out) (HM.out.cells X4.out.cells) fm1.1 cm hwm hsm)
      have hsame : wn = true → wm = true → (sn.toList == sm.toList) = same n m := by
        intro h1 h2
        rw [Bool.eq_iff_iff, str_same, same_iff]
        constructor
        · intro h
          refine whole_inj (hwn.trans h1) (hwm.trans h2) ?_
          rw [← hsn, ← hsm] at h
          have := congrArg (fun b : ByteArray => b.data.toList) h
          simpa using this
        · rintro rfl; rw [← hsn, ← hsm]
      have HSAME := Lib.hid hsame
      clear hwn hwm hsn hsm hsame
      have cnk : PN.costs n.kids ≤ 100000000000000 := by have := n.cost_eq; omega
      have CNK := Lib.hid cnk
      clear fn1 fn2 fm1 fm2 cm cnk
      go_wp2_with fail
      go_loopw [5, 6] (fun sv i wr => ∃ (k : Nat) (s : ByteArray), k ≤ n.kids.length ∧ sv = .string s ∧ i = .int .i64 k ∧ Ext w4 wr ∧ s.data.toList = PN.outers (n.kids.take k)) (fun _ i _ => n.kids.length - (intOf i).toNat)
      case atStart => exact ⟨0, ⟨#[]⟩, Nat.zero_le _, rfl, rfl, Ext.refl _, rfl⟩
      case round =>
        obtain ⟨k, s, hk, rfl, rfl, xr, hs⟩ := hrel
        have n3 := xr.cell (X24.out.cell (cellOf BN.out (i := 3) (v := .slice y3 n.kids.length y4) rfl))
        have XR := Lib.hid xr
        have HS := Lib.hid hs
        clear xr hs
        by_cases hlt : k < n.kids.length
        · obtain ⟨x, hx⟩ : ∃ x, n.kids[k]? = some x := ⟨n.kids[k], by simp [hlt]⟩
          cases y3 with
          | none => exact absurd (HK3.out rfl).1 (by omega)
          | some a =>
            obtain ⟨bk, off, sp⟩ := a
            obtain ⟨c0', c1', c2', c3', q0, q1, q2, q3, hrd⟩ := HK4.out _ rfl k x hx
            obtain ⟨u1, u2, u3, u4, en⟩ := hrd.shape
            cases en
            have hxx : Ext w wr := X4.out.trans XR.out
            replace q0 := hxx.cells _ _ q0
            replace q1 := hxx.cells _ _ q1
            replace q2 := hxx.cells _ _ q2
            replace q3 := hxx.cells _ _ q3
            rw [add_later _ _ _ (by decide)] at q1 q2 q3
            have htk : n.kids.take (k + 1) = n.kids.take k ++ [x] := by
              obtain ⟨hlt', hxe⟩ := List.getElem?_eq_some_iff.1 hx
              rw [List.take_succ_eq_append_getElem hlt', hxe]
            have hcost : PN.costs (n.kids.take k) + x.cost ≤ PN.costs n.kids := by
              have h1 : PN.costs n.kids = PN.costs (n.kids.take (k + 1)) + PN.costs (n.kids.drop (k + 1)) := by rw [← PN.costs_append, List.take_append_drop]
              rw [htk, PN.costs_append] at h1
              simp only [PN.costs] at h1
              omega
            have hlen := PN.outers_len (l := n.kids.take k) fun z _ => z.outer_len
            have hlx := x.outer_len
            have HO := Lib.hid (Outer_any wr x _ (hrd.cells hxx.cells) (by have := CNK.out; omega))
            obtain ⟨so, hso⟩ : ∃ so : ByteArray, (⟨x.outer.toArray⟩ : ByteArray) = so := ⟨_, rfl⟩
            rw [hso] at HO
            have hsl : so.data.toList = x.outer := by rw [← hso]
            have hz : s.size + so.size ≤ 9223372036854775807 := by
              have e1 : s.size = (PN.outers (n.kids.take k)).length := by rw [← HS.out]; rfl
              have e2 : so.size = x.outer.length := by rw [← hsl]; rfl
              have := CNK.out
              omega
            have ea : ∀ W : World, (Op.stringOp .add s so).run Tryd.prog W = .ok (.string (s ++ so)) W := fun W => run_string_add_sum W _ _ hz
            have hnew : (s ++ so).data.toList = PN.outers (n.kids.take (k + 1)) := by
              rw [htk, PN.outers_append, ByteArray.data_append, Array.toList_append, HS.out, hsl]; simp [PN.outers]
            have HNEW := Lib.hid hnew
            clear hnew hz hsl hso hlx hlen hcost htk hxx hrd hx
            go_wp2_with (go_at_call 11; refine HO.out.mono ?_)
            rintro e w5 ⟨rfl, x5⟩
            have X5 := Lib.hid (XR.out.trans x5)
            clear x5 q0 q1 q2 q3 n3
            go_wp2_with fail
            go_roundw
            case rel => exact ⟨k + 1, s ++ so, by omega, rfl, by go_num, X5.out, HNEW.out⟩
            case measure => simp [intOf]; omega
        · obtain rfl : k = n.kids.length := by omega
          rw [List.take_length] at HS
          have hbn := XR.out.block (X24.out.block BN.out)
          have n0 := cellOf hbn (i := 0) (v := .int .i64 n.tag) rfl
          have n1 := cellOf hbn (i := 1) (v := .slice y1 n.attrs.length y2) rfl
          have n2 := cellOf hbn (i := 2) (v := .string n.text) rfl
          have HBNR := Lib.hid hbn
          have HBMR := Lib.hid (XR.out.block (X24.out.block BM.out))
          clear hbn
          go_upto_region 8 with fail
          go_cut [37] (fun q wx => q = .bool false ∧ Ext wr wx)
          case first =>
            rcases tagB n.tag with ht | ht
            · have hb : (n.tag != 0) = false := by rw [bne, ht]; rfl
              go_wp2_with fail
              go_meet
              exact ⟨rfl, Ext.refl _⟩
            · have hb : (n.tag != 0) = true := by rw [bne, ht]; rfl
              have t0 : ¬ n.tag = 0 := by simpa using ht
              obtain ⟨si, hsi⟩ : ∃ si : ByteArray, (⟨n.inner.toArray⟩ : ByteArray) = si := ⟨_, rfl⟩
              have hI := Inner_any wr n _ (HN.out.cells (X4.out.trans XR.out).cells) cn
              rw [hsi] at hI
              have HI := Lib.hid hI
              have hss : (si.toList == s.toList) = true := by
                rw [str_same]
                refine bytes_ext ?_
                rw [HS.out, ← hsi]
                exact if_neg t0
              clear hI hsi t0
              go_wp2_with (go_at_call 13; refine HI.out.mono ?_)
              rintro e w5 ⟨rfl, x5⟩
              have X5 := Lib.hid x5
              clear x5 n0 n1 n2 n3
              go_wp2_with fail
              go_meet
              exact ⟨rfl, X5.out⟩
          case rest =>
            obtain ⟨rfl, hcut⟩ := hcut
            have XC := Lib.hid (X4.out.trans (XR.out.trans hcut))
            have TNC := Lib.hid (TN.out.more (XR.out.trans hcut))
            have TMC := Lib.hid (TM.out.more (XR.out.trans hcut))
            have bnc := hcut.block HBNR.out
            have bmc := hcut.block HBMR.out
            obtain ⟨sv, hsv⟩ : ∃ b, same n m = b := ⟨_, rfl⟩
            have SAME := Lib.hid (show ∀ u : ExtOf wc, Calls Tryd.prog 17 #[_, _] u.val (RBool sv u.val) from fun u => hsv ▸ t_same TNC.out TMC.out u)
            rw [hsv] at HSAME
            have d0 := fun u : ExtOf wc => u.ext.cell (cellOf bnc (i := 0) (v := .int .i64 n.tag) rfl)
            have d1 := fun u : ExtOf wc => u.ext.cell (cellOf bnc (i := 1) (v := .slice y1 n.attrs.length y2) rfl)
            have d2 := fun u : ExtOf wc => u.ext.cell (cellOf bnc (i := 2) (v := .string n.text) rfl)
            have d3 := fun u : ExtOf wc => u.ext.cell (cellOf bnc (i := 3) (v := .slice y3 n.kids.length y4) rfl)
            have e0 := fun u : ExtOf wc => u.ext.cell (cellOf bmc (i := 0) (v := .int .i64 m.tag) rfl)
            have e1 := fun u : ExtOf wc => u.ext.cell (cellOf bmc (i := 1) (v := .slice z1 m.attrs.length z2) rfl)
            have e2 := fun u : ExtOf wc => u.ext.cell (cellOf bmc (i := 2) (v := .string m.text) rfl)
            have e3 := fun u : ExtOf wc => u.ext.cell (cellOf bmc (i := 3) (v := .slice z3 m.kids.length z4) rfl)
            clear bnc bmc hsv n0 n1 n2 hcut
            cases wn with
            | false =>
              clear HSAME
              go_upto_region 10 with fail
              refine wp_region_ext (by kernel_rfl) (by kernel_rfl) ?_
              repeat (go_big_quiet_step (first
                | (go_at_call 15; exact inExt (t_normal (by first | exact TNC.out | exact TMC.out) _))
                | (go_at_call 13; exact inExt (t_inner (by first | exact TNC.out | exact TMC.out) _))
                | (go_at_call 17; exact inExt (SAME.out _))))
              refine wpQuiet_nil ?_
              rintro _ ⟨u, rfl⟩
              have XU := Lib.hid (XC.out.trans u.ext)
              clear d0 d1 d2 d3 e0 e1 e2 e3
              go_wp2_with (go_at_call 9; refine (awake_any _ (HT.out.ext XU.out)).mono ?_)
              rintro e w8 ⟨rfl, x8⟩
              go_wp2_with fail
              go_ret
              exact ⟨rfl, XU.out.trans x8⟩
            | true =>
              cases wm with
              | false =>
                clear HSAME
                go_upto_region 10 with fail
                refine wp_region_ext (by kernel_rfl) (by kernel_rfl) ?_
                repeat (go_big_quiet_step (first
                  | (go_at_call 15; exact inExt (t_normal (by first | exact TNC.out | exact TMC.out) _))
                  | (go_at_call 13; exact inExt (t_inner (by first | exact TNC.out | exact TMC.out) _))
                  | (go_at_call 17; exact inExt (SAME.out _))))
                refine wpQuiet_nil ?_
                rintro _ ⟨u, rfl⟩
                have XU := Lib.hid (XC.out.trans u.ext)
                clear d0 d1 d2 d3 e0 e1 e2 e3
                go_wp2_with (go_at_call 9; refine (awake_any _ (HT.out.ext XU.out)).mono ?_)
                rintro e w8 ⟨rfl, x8⟩
                go_wp2_with fail
                go_ret
                exact ⟨rfl, XU.out.trans x8⟩
              | true =>
                have hse := HSAME.out rfl rfl
                subst hse
                rcases bcases (sn.toList == sm.toList) with hq | hq
                · rw [hq] at SAME
                  go_upto_region 10 with fail
                  refine wp_region_ext (by kernel_rfl) (by kernel_rfl) ?_
                  repeat (go_big_quiet_step (first
                    | (go_at_call 15; exact inExt (t_normal (by first | exact TNC.out | exact TMC.out) _))
                    | (go_at_call 13; exact inExt (t_inner (by first | exact TNC.out | exact TMC.out) _))
                    | (go_at_call 17; exact inExt (SAME.out _))))
                  refine wpQuiet_nil ?_
                  rintro _ ⟨u, rfl⟩
                  have XU := Lib.hid (XC.out.trans u.ext)
                  clear d0 d1 d2 d3 e0 e1 e2 e3
                  go_wp2_with (go_at_call 9; refine (awake_any _ (HT.out.ext XU.out)).mono ?_)
                  rintro e w8 ⟨rfl, x8⟩
                  go_wp2_with fail
                  go_ret
                  exact ⟨rfl, XU.out.trans x8⟩
                · rw [hq] at SAME
                  go_upto_region 10 with fail
                  refine wp_region_ext (by kernel_rfl) (by kernel_rfl) ?_
                  repeat (go_big_quiet_step (first
                    | (go_at_call 15; exact inExt (t_normal (by first | exact TNC.out | exact TMC.out) _))
                    | (go_at_call 13; exact inExt (t_inner (by first | exact TNC.out | exact TMC.out) _))
                    | (go_at_call 17; exact inExt (SAME.out _))))
                  refine wpQuiet_nil ?_
                  rintro _ ⟨u, rfl⟩
                  have XU := Lib.hid (XC.out.trans u.ext)
                  clear d0 d1 d2 d3 e0 e1 e2 e3
                  go_wp2_with (go_at_call 9; refine (awake_any _ (HT.out.ext XU.out)).mono ?_)
                  rintro e w8 ⟨rfl, x8⟩
                  go_wp2_with fail
                  go_ret
                  exact ⟨rfl, XU.out.trans x8⟩
end Go.Proofs.YtdafdoodegpdhaaDoor
