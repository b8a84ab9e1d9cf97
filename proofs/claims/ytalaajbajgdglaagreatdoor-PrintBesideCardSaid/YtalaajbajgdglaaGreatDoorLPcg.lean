/- what of ZP Z1 Z2 Z3 BA BB BC BD BE BF BG BH BI BJ BK BL BM BN BO BP BQ BR BS BT ZY BV BW BY Z4 CA CB CC CD CE is leant on -/
import Derived.Test.YtalaajbajgdglaaGreatDoorLPcf
set_option linter.unusedVariables false
set_option linter.unusedSimpArgs false
set_option maxRecDepth 1000000
set_option maxHeartbeats 8000000
namespace Go.Proofs.YtalaajbajgdglaaGreatDoor
open Go Go.RowKit Go.BigFrame We
def HRel (w1 : World) (bb : Nat) (L : List Tk) (k : Nat) (wr : World) : Prop := ∃ (F : Nat → Prop) (own : Ow) (l : List FrM) (ov : Value) (ob : Option Nat), BX w1 wr F bb own l ov ob (runZ (L.take k)) ∧ ∀ g, F g → g < wr.heap.size
theorem Host_any (s : ByteArray) (hs : s.size ≤ 10000000000) (w : World) (hl : LW w) : Calls Tryz.prog 10 #[.string s] w (HostIs (anewB s) w) := by
  have HALL := qh (fun (W : World) (x : Ext w W) => All_new s hs W (hl.ext x))
  obtain ⟨t, ht⟩ : ∃ t, anewB s = t := ⟨_, rfl⟩
  rw [ht] at HALL ⊢
  have hb0 := heap_alloc_new w (.cells #[.int .i64 0, .slice none 0 0, .string ⟨#[]⟩, .slice none 0 0] 26)
  have x0 := (Ext.refl w).alloc (.cells #[.int .i64 0, .slice none 0 0, .string ⟨#[]⟩, .slice none 0 0] 26)
  clear hs hl ht
  go_enter Tryz.func10, Tryz.ntmps10
  go_upto_region 1 with fail
  obtain ⟨w0, hw0⟩ : ∃ w' : World, w' = w.alloc (.cells #[.int .i64 0, .slice none 0 0, .string ⟨#[]⟩, .slice none 0 0] 26) := ⟨_, rfl⟩
  rw [← hw0] at x0 hb0 ⊢
  clear hw0
  obtain ⟨rb, hrb⟩ : ∃ rb, w.heap.size = rb := ⟨_, rfl⟩
  have HRB := qh hrb
  rw [hrb] at hb0 ⊢
  have X0 := qh x0
  have HB0 := qh hb0
  clear x0 hb0 hrb
  go_wp2_with (go_at_call 24; refine (HALL.out _ X0.out).mono ?_)
  rintro e w1 (⟨h8, rfl, x1⟩ | ⟨h8, v, rfl, x1, htk⟩)
  · have hb1 := x1.block HB0.out
    have r0 := cellOf hb1 (i := 0) (v := .int .i64 0) rfl
    have r1 := cellOf hb1 (i := 1) (v := .slice none 0 0) rfl
    have r2 := cellOf hb1 (i := 2) (v := .string ⟨#[]⟩) rfl
    have r3 := cellOf hb1 (i := 3) (v := .slice none 0 0) rfl
    have f0 := freeOf hb1 0
    have f1 := freeOf hb1 1
    have f2 := freeOf hb1 2
    have f3 := freeOf hb1 3
    have hX : Hid (∀ u0 u1 u2 u3 : Value, Ext w ((((w1.setCell ⟨rb, 0, none⟩ u0).setCell ⟨rb, 1, none⟩ u1).setCell ⟨rb, 2, none⟩ u2).setCell ⟨rb, 3, none⟩ u3)) := qh fun u0 u1 u2 u3 =>
      ((((X0.out.trans x1).setCell (p := ⟨rb, 0, none⟩) (by rw [HRB.out]; exact Nat.le_refl _) u0).setCell (p := ⟨rb, 1, none⟩) (by rw [HRB.out]; exact Nat.le_refl _) u1).setCell (p := ⟨rb, 2, none⟩) (by rw [HRB.out]; exact Nat.le_refl _) u2).setCell (p := ⟨rb, 3, none⟩) (by rw [HRB.out]; exact Nat.le_refl _) u3
    have H8 := qh h8
    clear hb1 x1 h8
    go_wp2_with fail
    exact bodyPost_ret (v := .tuple #[.agg #[.int .i64 0, .slice none 0 0, .string ⟨#[]⟩, .slice none 0 0], .int .i64 10]) (by simp [results, Tryz.results10, go_sem, r0, r1, r2, r3]) rfl (.inl ⟨H8.out, rfl, hX.out _ _ _ _⟩)
  · obtain ⟨L, hL⟩ : ∃ L, tokens t.data.toList = L := ⟨_, rfl⟩
    have hsm := tokens_small (L := t.data.toList) (by have : t.data.toList.length = t.size := rfl; omega)
    rw [hL] at htk hsm
    obtain ⟨a, cap, rfl, hat⟩ := htk.at
    obtain ⟨N, hN⟩ : ∃ N, L.length = N := ⟨_, rfl⟩
    rw [hN] at hat hsm ⊢
    have HNN := qh (And.intro hN hL)
    have HSM := qh hsm
    have HAT := qh hat
    have H8 := qh h8
    have X1 := qh x1
    have HB1 := qh (x1.block HB0.out)
    have hN82 : N ≤ 8192 := hsm.1
    -- the builder at the start
    have HST : Hid (HRel w1 (w1.heap.size + 1 + 1) L 0 (((w1.alloc (.cells #[.int .i64 1, .slice none 0 0, .string ⟨#[]⟩, .slice none 0 0, .slice none 0 0] 51)).alloc (.cells #[.pointer (some ⟨w1.heap.size, 0, none⟩)] 48)).alloc (.cells #[.slice (some ⟨w1.heap.size + 1, 0, none⟩) 1 1, .int .i64 1] 53))) := qh (by
      have k1 := heap_alloc_new w1 (.cells #[.int .i64 1, .slice none 0 0, .string ⟨#[]⟩, .slice none 0 0, .slice none 0 0] 51)
      have k2 := heap_alloc_new (w1.alloc (.cells #[.int .i64 1, .slice none 0 0, .string ⟨#[]⟩, .slice none 0 0, .slice none 0 0] 51)) (.cells #[.pointer (some ⟨w1.heap.size, 0, none⟩)] 48)
      have k3 := heap_alloc_new ((w1.alloc (.cells #[.int .i64 1, .slice none 0 0, .string ⟨#[]⟩, .slice none 0 0, .slice none 0 0] 51)).alloc (.cells #[.pointer (some ⟨w1.heap.size, 0, none⟩)] 48)) (.cells #[.slice (some ⟨w1.heap.size + 1, 0, none⟩) 1 1, .int .i64 1] 53)
      simp only [World.size_alloc] at k2 k3
      have xx := (((Ext.refl w1).alloc (.cells #[.int .i64 1, .slice none 0 0, .string ⟨#[]⟩, .slice none 0 0, .slice none 0 0] 51)).alloc (.cells #[.pointer (some ⟨w1.heap.size, 0, none⟩)] 48)).alloc (.cells #[.slice (some ⟨w1.heap.size + 1, 0, none⟩) 1 1, .int .i64 1] 53)
      refine ⟨_, _, _, _, _, BX.start (q := w1.heap.size) (rb := w1.heap.size + 1) (bb := w1.heap.size + 1 + 1) ((((Ext.refl _).alloc _).alloc _).block k1) (((Ext.refl _).alloc _).block k2) k3 (Nat.le_refl _) (by omega) (by omega) xx (by omega) (by omega) (by omega), fun g hg => hg.2⟩)
    clear hsm hat h8 x1 htk hL hN
    go_upto_region 5 with fail
    obtain ⟨bb, hbb⟩ : ∃ bb, w1.heap.size + 1 + 1 = bb := ⟨_, rfl⟩
    rw [hbb] at HST ⊢
    generalize ((w1.alloc (.cells #[.int .i64 1, .slice none 0 0, .string ⟨#[]⟩, .slice none 0 0, .slice none 0 0] 51)).alloc (.cells #[.pointer (some ⟨w1.heap.size, 0, none⟩)] 48)).alloc (.cells #[.slice (some ⟨w1.heap.size + 1, 0, none⟩) 1 1, .int .i64 1] 53) = w2 at HST ⊢
    clear hbb
    go_wp2_with fail
    go_loopg [26] N (fun gk s26 wr => ∃ k : Nat, s26 = .int .i64 (k : Int) ∧ k + gk = N ∧ HRel w1 bb L k wr)
    case atStart => exact ⟨0, rfl, by omega, HST.out⟩
    case round =>
      obtain ⟨k, rfl, hk, hrel⟩ := hrel
      clear HST
      have HREL := qh hrel
      clear hrel
      by_cases hlt : k < N
      · obtain ⟨g', rfl⟩ : ∃ g', gk = g' + 1 := ⟨gk - 1, by omega⟩
        have hltz : decide ((k : Int) < (N : Int)) = true := decide_eq_true (by omega)
        have hltn : decide (k < N) = true := decide_eq_true hlt
        obtain ⟨tk, htk⟩ : ∃ tk, L[k]? = some tk := ⟨L[k]'(by have := HNN.out.1; omega), by simp⟩
        obtain ⟨g, rfl, hgt⟩ := HAT.out (by omega)
        have hT := hgt k tk htk
        obtain ⟨F, own, l, ov, ob, hBX, hF⟩ := HREL.out
        have hx : Ext w1 wr := hBX.old
        obtain ⟨aa, ac, q3, hatt⟩ := hT.attrs
        obtain ⟨sf, q4⟩ := hT.self
        obtain ⟨lo, q5⟩ := hT.lo
        obtain ⟨hi, q6⟩ := hT.hi
        have q0 := hx.cell hT.kind
        have q1 := hx.cell hT.name
        have q2 := hx.cell hT.text
        replace q3 := hx.cell q3
        replace q4 := hx.cell q4
        replace q5 := hx.cell q5
        replace q6 := hx.cell q6
        obtain ⟨hbk, hnm⟩ := HSM.out.2 tk (List.mem_of_getElem? htk)
        have hok := runZ_ok (L := L) (M := 131072) (fun t ht => (HSM.out.2 t ht).1) k
        have HTOK : Hid (∀ W, Ext wr W → Calls Tryz.prog 25 #[.pointer (some ⟨bb, 0, none⟩), .agg #[.int .i64 tk.kind, .string (bs tk.name), .string (bs tk.text), .slice aa tk.attrs.length ac, .int .i64 sf, .int .i64 lo, .int .i64 hi]] W (RB w1 W F bb (tokenZ tk (runZ (L.take k))))) := qh (fun W x =>
          token_any (hBX.ext x) hok (by omega) (fun g hg => Nat.lt_of_lt_of_le (hF g hg) x.size) tk hnm.2 (by have := hnm.1; omega) (by omega) hatt)
        have HREL2 : Hid (∀ W, Ext wr W → ∀ e W', RB w1 W F bb (tokenZ tk (runZ (L.take k))) e W' → HRel w1 bb L (k + 1) W') := qh (fun W x e W' hr => by
          obtain ⟨_, F', H⟩ := RB.x hr
          obtain ⟨own', l', ov', ob', h2⟩ := H.out
          refine ⟨F', own', l', ov', ob', ?_, fun g hg => ?_⟩
          · have e1 : L.take (k + 1) = L.take k ++ [tk] := by rw [List.take_add_one, htk]; rfl
            rw [e1, runZ_snoc]
            exact h2
          · rcases H.new g hg with h | h
            · exact Nat.lt_of_lt_of_le (hF g h) (Nat.le_trans x.size H.mv.size)
            · exact h.2)
        obtain ⟨kd, hkd⟩ : ∃ kd, tk.kind = kd := ⟨_, rfl⟩
        obtain ⟨nm, hnm2⟩ : ∃ nm, bs tk.name = nm := ⟨_, rfl⟩
        obtain ⟨tx, htx⟩ : ∃ tx, bs tk.text = tx := ⟨_, rfl⟩
        obtain ⟨an, han⟩ : ∃ an, tk.attrs.length = an := ⟨_, rfl⟩
        rw [hkd] at q0 HTOK
        rw [hnm2] at q1 HTOK
        rw [htx] at q2 HTOK
        rw [han] at q3 HTOK
        have HK := qh hk
        clear hT hBX hF hx hatt hbk hnm hok hkd hnm2 htx han htk hgt hk
        have xr := (Ext.refl wr).alloc (.cells #[.int .i64 kd, .string nm, .string tx, .slice aa an ac, .int .i64 sf, .int .i64 lo, .int .i64 hi] 55)
        have hbn := heap_alloc_new wr (.cells #[.int .i64 kd, .string nm, .string tx, .slice aa an ac, .int .i64 sf, .int .i64 lo, .int .i64 hi] 55)
        have m0 := cellOf hbn (i := 0) (v := .int .i64 kd) rfl
        have m1 := cellOf hbn (i := 1) (v := .string nm) rfl
        have m2 := cellOf hbn (i := 2) (v := .string tx) rfl
        have m3 := cellOf hbn (i := 3) (v := .slice aa an ac) rfl
        have m4 := cellOf hbn (i := 4) (v := .int .i64 sf) rfl
        have m5 := cellOf hbn (i := 5) (v := .int .i64 lo) rfl
        have m6 := cellOf hbn (i := 6) (v := .int .i64 hi) rfl
        have XR := qh xr
        clear xr hbn
        go_wp2_with fail
        refine (HTOK.out _ XR.out).mono ?_
        intro e w5 h5
        have H5 := qh (HREL2.out _ XR.out _ _ h5)
        obtain ⟨rfl, _⟩ := RB.x h5
        clear h5 q0 q1 q2 q3 q4 q5 q6 m0 m1 m2 m3 m4 m5 m6
        go_wp2_with fail
        go_roundg g'
        case measure => omega
        case rel => exact ⟨k + 1, by first | rfl | go_num | exact intN (by omega), by have := HK.out; omega, H5.out⟩
      · have hkN : k = N := by omega
        subst hkN
        have e1 : decide ((k : Int) < (k : Int)) = false := decide_eq_false (by omega)
        obtain ⟨F, own, l, ov, ob, hBX, hF⟩ := HREL.out
        have hok := runZ_ok (L := L) (M := 131072) (fun t ht => (HSM.out.2 t ht).1) k
        have hTL : L.take k = L := List.take_of_length_le (by have := HNN.out.1; omega)
        rw [hTL] at hBX hok
        obtain ⟨m, S, hm0, hel, hsz⟩ := hBX.whole hok
        obtain ⟨g, gc, hob, hov, hV⟩ := hBX.view (by have := hok.len; omega)
        have hx : Ext w1 wr := hBX.old
        have hm1 : (l.map FrM.q)[0]? = some m.q := by rw [List.getElem?_map, hm0]; rfl
        have qr : wr.cell? ⟨g, 0, none⟩ = some (.pointer (some ⟨m.q, 0, none⟩)) := hV.row 0 m.q hm1
        have qb := cellOf hBX.blk (i := 0) (v := ov) rfl
        rw [hov] at qb
        obtain ⟨ln, hln⟩ : ∃ ln, l.length = ln + 1 := ⟨l.length - 1, by have := List.length_pos_iff.2 hBX.ne; omega⟩
        rw [hln] at qb
        have hb1 := HB1.out
        have HGA : Hid (∀ (v : Value) (n : Nat) (xs : List Value), RowP w1 (fun _ => True) 104 2 v n xs → RowRd (hide (fun y => if y = rb then some (0, 0) else none) w1) 2 v n xs) := qh (fun v n xs h => by
          have hr := h.rd
          obtain ⟨h3, ao, cap, h4, h5, h6, h7⟩ := hr
          refine ⟨h3, ao, cap, h4, h5, h6, fun a ha j x hx => hide_cell (h7 a ha j x hx) ?_⟩
          rcases h.2 with ⟨h8, a8, h9⟩ | ⟨g, cap', cur, h8, _, h10, _⟩
          · have h0 : xs = [] := List.eq_nil_of_length_eq_zero (by rw [h3, h8, Nat.zero_mul])
            rw [h0] at hx; simp at hx
          · rw [h4] at h8
            cases h8
            cases ha
            rw [Addr.add_lit]
            refine if_neg fun e => ?_
            have e : g = rb := e
            rw [e, hb1] at h10
            simp at h10)
        have HPL := qh (plain_any HGA.out (topN (runZ L).z) (by omega) wr S m.q hel)
        have HXR := qh (X1.out.trans hx)
        have HX1R := qh hx
        have hbr := hx.block HB1.out
        have HBR := qh hbr
        obtain ⟨mq, hmq⟩ : ∃ mq, m.q = mq := ⟨_, rfl⟩
        rw [hmq] at HPL qr
        clear hBX hF hok hm0 hel hsz hob hov hV hx hm1 hln hb1 hbr hmq hTL
        go_wp2_with (go_at_call 26; refine HPL.out.mono ?_)
        rintro e w6 ⟨v0, F0, rfl, ho, x6, hF0⟩
        obtain ⟨na, nac, nk, nkc, rfl⟩ := ho.shape
        have hb6 := x6.block HBR.out
        have r0 := cellOf hb6 (i := 0) (v := .int .i64 0) rfl
        have r1 := cellOf hb6 (i := 1) (v := .slice none 0 0) rfl
        have r2 := cellOf hb6 (i := 2) (v := .string ⟨#[]⟩) rfl
        have r3 := cellOf hb6 (i := 3) (v := .slice none 0 0) rfl
        have f0 := freeOf hb6 0
        have f1 := freeOf hb6 1
        have f2 := freeOf hb6 2
        have f3 := freeOf hb6 3
        have hrbl : rb < w1.heap.size := (Array.getElem?_eq_some_iff.1 HB1.out).1
        have FIN : Hid (∀ u0 u1 u2 u3 : Value, Ext w ((((w6.setCell ⟨rb, 0, none⟩ u0).setCell ⟨rb, 1, none⟩ u1).setCell ⟨rb, 2, none⟩ u2).setCell ⟨rb, 3, none⟩ u3) ∧
            RdN ((((w6.setCell ⟨rb, 0, none⟩ u0).setCell ⟨rb, 1, none⟩ u1).setCell ⟨rb, 2, none⟩ u2).setCell ⟨rb, 3, none⟩ u3) (topN (runZ L).z) (.agg #[.int .i64 (topN (runZ L).z).tag, .slice na (topN (runZ L).z).attrs.length nac, .string (topN (runZ L).z).text, .slice nk (topN (runZ L).z).kids.length nkc])) := qh (fun u0 u1 u2 u3 => by
          have far : ∀ (q : Addr) y, w6.cell? q = some y → q.block ≠ rb → ((((w6.setCell ⟨rb, 0, none⟩ u0).setCell ⟨rb, 1, none⟩ u1).setCell ⟨rb, 2, none⟩ u2).setCell ⟨rb, 3, none⟩ u3).cell? q = some y := fun q y hq hne => by
            rw [World.cell?_setCell_far _ _ _ _ (Ne.symm hne), World.cell?_setCell_far _ _ _ _ (Ne.symm hne), World.cell?_setCell_far _ _ _ _ (Ne.symm hne), World.cell?_setCell_far _ _ _ _ (Ne.symm hne)]
            exact hq
          refine ⟨((((HXR.out.trans x6 |> X0.out.trans).setCell (p := ⟨rb, 0, none⟩) (by rw [HRB.out]; exact Nat.le_refl _) u0).setCell (p := ⟨rb, 1, none⟩) (by rw [HRB.out]; exact Nat.le_refl _) u1).setCell (p := ⟨rb, 2, none⟩) (by rw [HRB.out]; exact Nat.le_refl _) u2).setCell (p := ⟨rb, 3, none⟩) (by rw [HRB.out]; exact Nat.le_refl _) u3, ?_⟩
          refine ho.rd (B := wr.heap.size) (fun q y hq => ?_) (fun q y hq hB => far q y hq (by have := HX1R.out.size; omega)) (fun x hx => (hF0 x hx).1)
          obtain ⟨h1, h2⟩ := hide_apart _ _ q y hq
          dsimp only at h2
          refine far q y ((HX1R.out.trans x6).cells _ _ h1) fun e => ?_
          rw [if_pos e] at h2
          cases h2)
        obtain ⟨nd, hnd⟩ : ∃ nd, topN (runZ L).z = nd := ⟨_, rfl⟩
        have HND : Hid (hostZ (tokens t.data.toList) = nd) := qh (by rw [HNN.out.2]; exact hnd)
        rw [hnd] at FIN ⊢
        clear ho hF0 x6 hb6 hrbl qr qb hnd
        go_wp2_with fail
        refine bodyPost_ret (v := .tuple #[.agg #[.int .i64 nd.tag, .slice na nd.attrs.length nac, .string nd.text, .slice nk nd.kids.length nkc], .int .i64 0]) (by simp [results, Tryz.results10, go_sem, r0, r1, r2, r3]) rfl ?_
        exact .inr ⟨H8.out, _, rfl, (FIN.out _ _ _ _).1, by rw [HND.out]; exact (FIN.out _ _ _ _).2⟩
theorem Host_short {t : ByteArray} {n : PN} {w : World} {e : Ending} {w' : World} (h : HostIs t w e w') (ht : t.size ≤ 8192) (hn : hostZ (tokens t.data.toList) = n) : ∃ v, e = .returned (.tuple #[v, .int .i64 0]) ∧ Ext w w' ∧ RdN w' n v := by
  rcases h with ⟨h1, _⟩ | ⟨_, v, h2, h3, h4⟩
  · omega
  · exact ⟨v, h2, h3, hn ▸ h4⟩
theorem kid_in {w : World} {n : PN} {c0 c1 c2 : Value} {bk : Option Addr} {kl kc : Nat} (h : RdN w n (.agg #[c0, c1, c2, .slice bk kl kc])) {j : Nat} {k : PN} (hk : n.kids[j]? = some k) : ∃ a, bk = some a ∧ ∃ ba bc xk xc, w.cell? (a.add (j * 4)) = some (.int .i64 k.tag) ∧ w.cell? (a.add (j * 4 + 2)) = some (.string k.text) ∧ w.cell? (a.add (j * 4 + 3)) = some (.slice xk k.kids.length xc) ∧
    RdN w k (.agg #[.int .i64 k.tag, .slice ba k.attrs.length bc, .string k.text, .slice xk k.kids.length xc]) := by
  obtain ⟨av, kv, e, _, ka, kcap, rfl, h1, h2, h3, h4⟩ := h.open
  simp only [Value.agg.injEq, Array.mk.injEq, List.cons.injEq, Value.slice.injEq, and_true] at e
  obtain ⟨_, _, _, rfl, rfl, rfl⟩ := e
  cases bk with
  | none =>
    have h5 := (h3 rfl).1
    have h6 := (List.getElem?_eq_some_iff.1 hk).1
    omega
  | some a =>
    obtain ⟨c0, c1, c2, c3, q0, q1, q2, q3, h5⟩ := h4 a rfl j k hk
    obtain ⟨y1, y2, y3, y4, en⟩ := h5.shape
    cases en
    exact ⟨a, rfl, _, _, _, _, q0, q2, q3, h5⟩
theorem host_in {w : World} {n : PN} {v : Value} (h : RdN w n v) : ∃ aa ac ka kc, v = .agg #[.int .i64 n.tag, .slice aa n.attrs.length ac, .string n.text, .slice ka n.kids.length kc] := by
  obtain ⟨y1, y2, y3, y4, en⟩ := h.shape
  exact ⟨y1, y2, y3, y4, en⟩
end Go.Proofs.YtalaajbajgdglaaGreatDoor
namespace Go.Proofs.YtalaajbajgdglaaGreatDoor
open Go Go.RowKit Go.BigFrame
end Go.Proofs.YtalaajbajgdglaaGreatDoor
namespace Go.Proofs.YtalaajbajgdglaaGreatDoor
open Go
theorem named_ne {m x : List UInt8} (h : namedL m = some x) : x ≠ [] := by
  unfold namedL at h
  repeat' split at h
  all_goals (first | (cases h; decide) | cases h)
theorem entityL_ne (l : List UInt8) : (entityL l).1 ≠ [] := by
  unfold entityL
  dsimp only
  split
  · decide
  · split
    · rename_i x hx
      unfold meansL at hx
      split at hx
      · rename_i y hy; cases hx; exact named_ne hy
      · split at hx
        · unfold codedL at hx
          rename_i hcode hh
          cases hc : codeL ((l.drop 2).take ((Lib.indexByte (l.take 12) 59).toNat - 2)) with
          | none => rw [hc] at hx; cases hx
          | some n =>
            rw [hc] at hx
            have e := Option.some.inj hx
            have := (encode_len (n : Int)).1
            intro he
            have he' : x = [] := he
            rw [he'] at e
            rw [show (Utf8.encode (n : Int)).data.toList = [] from e] at this
            simp at this
        · cases hx
    · decide
theorem decL_ne {l : List UInt8} (h : l ≠ []) : decL l ≠ [] := by
  cases l with
  | nil => exact absurd rfl h
  | cons c q =>
    by_cases hc : c = 38
    · subst hc
      rw [decL_amp]
      intro he
      exact entityL_ne _ (List.append_eq_nil_iff.1 he).1
    · rw [decL_cons hc]; simp
theorem decodeL_encode {n : Nat} (h : n < 55296 ∨ 57344 ≤ n ∧ n ≤ 1114111) (X : List UInt8) : Lib.decodeL ((Utf8.encode (n : Int)).data.toList ++ X) = (n, (Utf8.encode (n : Int)).data.toList.length) := by
  rw [encode_nat h]
  by_cases h1 : n < 128
  · rw [if_pos h1]
    have e : (UInt8.ofNat n).toNat = n := ofNat_nat (by omega)
    exact (Lib.decodeL_ascii (UInt8.ofNat n) X (by omega)).trans (by rw [e]; rfl)
  · rw [if_neg h1]
    by_cases h2 : n < 2048
    · rw [if_pos h2, Lib.decodeL_N]
      have e0 : (UInt8.ofNat (192 + n / 64)).toNat = 192 + n / 64 := ofNat_nat (by omega)
      have e1 : (UInt8.ofNat (128 + n % 64)).toNat = 128 + n % 64 := ofNat_nat (by omega)
      simp only [List.cons_append, List.nil_append, List.getD_cons_zero, List.getD_cons_succ, List.length_cons, List.length_nil, e0, e1]
      unfold Lib.decodeN
      rw [if_neg (by omega), if_pos ⟨by omega, by omega, by omega⟩, if_pos (by omega)]
      exact Prod.ext (by dsimp only; omega) rfl
    · rw [if_neg h2]
      by_cases h3 : n < 65536
      · rw [if_pos h3, Lib.decodeL_N]
        have e0 : (UInt8.ofNat (224 + n / 4096)).toNat = 224 + n / 4096 := ofNat_nat (by omega)
        have e1 : (UInt8.ofNat (128 + n / 64 % 64)).toNat = 128 + n / 64 % 64 := ofNat_nat (by omega)
        have e2 : (UInt8.ofNat (128 + n % 64)).toNat = 128 + n % 64 := ofNat_nat (by omega)
        simp only [List.cons_append, List.nil_append, List.getD_cons_zero, List.getD_cons_succ, List.length_cons, List.length_nil, e0, e1, e2]
        have ev : (224 + n / 4096) % 16 * 4096 + (128 + n / 64 % 64) % 64 * 64 + (128 + n % 64) % 64 = n := by omega
        unfold Lib.decodeN
        rw [if_neg (by omega), if_neg (by omega), if_pos ⟨by omega, ⟨by omega, by omega⟩, by omega, by omega⟩, ev, if_pos (by omega)]
      · rw [if_neg h3, Lib.decodeL_N]
        have e0 : (UInt8.ofNat (240 + n / 262144)).toNat = 240 + n / 262144 := ofNat_nat (by omega)
        have e1 : (UInt8.ofNat (128 + n / 4096 % 64)).toNat = 128 + n / 4096 % 64 := ofNat_nat (by omega)
        have e2 : (UInt8.ofNat (128 + n / 64 % 64)).toNat = 128 + n / 64 % 64 := ofNat_nat (by omega)
        have e3 : (UInt8.ofNat (128 + n % 64)).toNat = 128 + n % 64 := ofNat_nat (by omega)
        simp only [List.cons_append, List.nil_append, List.getD_cons_zero, List.getD_cons_succ, List.length_cons, List.length_nil, e0, e1, e2, e3]
        have ev : (240 + n / 262144) % 8 * 262144 + (128 + n / 4096 % 64) % 64 * 4096 + (128 + n / 64 % 64) % 64 * 64 + (128 + n % 64) % 64 = n := by omega
        unfold Lib.decodeN
        rw [if_neg (by omega), if_neg (by omega), if_neg (by omega), if_pos ⟨by omega, ⟨by omega, by omega⟩, ⟨by omega, by omega⟩, by omega, by omega⟩, ev, if_pos (by omega)]
theorem valid_runes : ∀ l : List Int, (∀ r ∈ l, Utf8.valid r = true) → Lib.validD (l.flatMap fun r => (Utf8.encode r).data.toList) = true := by
  intro l
  induction l with
  | nil => intro _; rfl
  | cons r l ih =>
    intro h
    obtain ⟨n, rfl, hn⟩ := valid_cases (h r (by simp))
    have hl := (encode_len (n : Int)).1
    have hd := decodeL_encode hn (l.flatMap fun r => (Utf8.encode r).data.toList)
    have hne : (Utf8.encode (n : Int)).data.toList ++ (l.flatMap fun r => (Utf8.encode r).data.toList) ≠ [] := fun he => by
      have := congrArg List.length he
      rw [List.length_append, List.length_nil] at this
      omega
    rw [List.flatMap_cons, Lib.validD_step _ hne, hd, if_neg, List.drop_left' rfl]
    · exact ih fun x hx => h x (by simp [hx])
    · rintro ⟨h1, h2⟩
      dsimp only at h1 h2
      subst h1
      exact absurd h2 (by decide)
theorem anew_pos {s : ByteArray} (h : 0 < s.size) : (anewB s).data.toList ≠ [] := by
  unfold anewB
  rw [runesBytes_list]
  obtain ⟨n, hn⟩ : ∃ n, s.size = n + 1 := ⟨s.size - 1, by omega⟩
  rw [hn, runeList, if_pos (by omega), List.flatMap_cons]
  have hl := (encode_len (Int.ofNat (Utf8.decode s 0).1)).1
  intro he
  have := congrArg List.length he
  rw [List.length_append, List.length_nil] at this
  omega
theorem decT_ne {x : List UInt8} (h : x ≠ []) : decT x ≠ [] := by
  unfold decT
  refine decL_ne (anew_pos ?_)
  rw [bs_size]
  exact List.length_pos_iff.2 h
theorem lexL_any {N : Nat} : ∀ (n : Nat) (r : List UInt8) (a b : Nat), r.length ≤ n → lexL N [] a b r = lexL N [] 0 0 r := by
  intro n
  induction n with
  | zero =>
    intro r a b h
    obtain rfl : r = [] := List.eq_nil_of_length_eq_zero (by omega)
    rfl
  | succ n ih =>
    intro r a b h
    cases r with
    | nil => rfl
    | cons c q =>
      simp only [List.length_cons] at h
      by_cases hc : c = 60
      · subst hc
        cases hn : noteL (60 :: q) with
        | some e =>
          have := (noteL_suf hn).2
          simp only [List.length_cons] at this
          rw [lexL_note hn, lexL_note hn, ih e a b (by omega)]
        | none =>
          cases ht : tagL N (60 :: q) with
          | none => rw [lexL_char (.inr ⟨hn, ht⟩), lexL_char (.inr ⟨hn, ht⟩), if_pos rfl, if_pos rfl]
          | some te =>
            obtain ⟨t, e⟩ := te
            have := (tagL_len ht).2
            simp only [List.length_cons] at this
            rw [lexL_tag hn ht, lexL_tag hn ht, ih e a b (by omega)]
            rfl
      · rw [lexL_char (.inl hc), lexL_char (.inl hc), if_pos rfl, if_pos rfl]
def runL (N : Nat) (r : List UInt8) (z : BZ) : BZ := ((lexL N [] 0 0 r).map Tk.fin).foldl (fun b t => tokenZ t b) z
def TagEnd (N : Nat) (r : List UInt8) : Prop := r = [] ∨ ∃ q t e, r = 60 :: q ∧ noteL r = none ∧ tagL N r = some (t, e)
theorem runL_nil (N : Nat) (z : BZ) : runL N [] z = z := rfl
theorem runL_tag {N : Nat} {q e : List UInt8} {t : Tk} {z : BZ} (h : noteL (60 :: q) = none) (ht : tagL N (60 :: q) = some (t, e)) (hk : t.kind ≠ 1) : runL N (60 :: q) z = runL N e (tokenZ t z) := by
  unfold runL
  rw [lexL_tag h ht, show flushT [] 0 0 = [] from rfl, List.nil_append, List.map_cons, List.foldl_cons, show t.fin = t by unfold Tk.fin; rw [if_neg hk]]
theorem runL_text {N : Nat} {p r : List UInt8} {z : BZ} (hp : p ≠ []) (h60 : ∀ c ∈ p, c ≠ 60) (hr : TagEnd N r) : runL N (p ++ r) z = runL N r (textZ (decT p) z) := by
  unfold runL
  rw [lexL_run p [] 0 0 r hp h60, if_pos rfl, List.nil_append]
  have key : ∀ a b, ∃ a' b', lexL N p a b r = ⟨1, [], p, [], false, a', b'⟩ :: lexL N [] 0 0 r := by
    intro a b
    rcases hr with rfl | ⟨q, t, e, rfl, h1, h2⟩
    · refine ⟨a, b, ?_⟩
      rw [lexL_nil, lexL_nil]
      unfold flushT
      rw [if_neg hp]
      rfl
    · refine ⟨a, b, ?_⟩
      rw [lexL_tag h1 h2, lexL_tag h1 h2, lexL_any _ _ a b (Nat.le_refl _)]
      unfold flushT
      rw [if_neg hp]
      rfl
  obtain ⟨a', b', e⟩ := key (N - (p ++ r).length) (N - r.length)
  rw [e, List.map_cons, List.foldl_cons]
  congr 1
theorem runZ_L (l : List UInt8) : runZ (tokens l) = runL l.length l startZ := rfl

/-! the tags that were printed -/
theorem nameT_good {t : Int} (h : clsT t ≠ 0) (h0 : t ≠ 0) : (∀ c ∈ (nameT t).data.toList, alnumB c = true ∧ smallC c = c) ∧ (∃ c l, (nameT t).data.toList = c :: l ∧ letterB c = true ∧ c ≠ 47 ∧ c ≠ 33 ∧ c ≠ 63) ∧ findT (nameT t).data.toList = some t := by
  rcases name_cases h h0 with rfl | rfl | rfl | rfl | rfl | rfl | rfl | rfl | rfl | rfl | rfl | rfl | rfl | rfl | rfl | rfl <;> exact ⟨by decide, ⟨_, _, rfl, by decide, by decide, by decide, by decide⟩, by decide⟩
theorem span_take {p : UInt8 → Bool} {l r : List UInt8} (hl : ∀ c ∈ l, p c = true) (hr : ∀ c, r.head? = some c → p c = false) : (l ++ r).takeWhile p = l ∧ (l ++ r).dropWhile p = r := by
  induction l with
  | nil =>
    cases r with
    | nil => exact ⟨rfl, rfl⟩
    | cons c r =>
      have := hr c rfl
      rw [List.nil_append]
      exact ⟨List.takeWhile_cons_of_neg (by rw [this]; exact Bool.false_ne_true), List.dropWhile_cons_of_neg (by rw [this]; exact Bool.false_ne_true)⟩
  | cons c l ih =>
    have h1 := hl c (by simp)
    obtain ⟨h2, h3⟩ := ih fun c hc => hl c (by simp [hc])
    rw [List.cons_append]
    exact ⟨by rw [List.takeWhile_cons_of_pos h1, h2], by rw [List.dropWhile_cons_of_pos h1, h3]⟩
theorem smalls_same {l : List UInt8} (h : ∀ c ∈ l, smallC c = c) : l.map smallC = l := by
  induction l with
  | nil => rfl
  | cons c l ih => rw [List.map_cons, h c (by simp), ih fun c hc => h c (by simp [hc])]
theorem note_name {c : UInt8} {l : List UInt8} (h1 : c ≠ 33) (h2 : c ≠ 63) : noteL (60 :: c :: l) = none := by
  unfold noteL
  rw [if_neg, if_neg]
  · intro h
    simp only [List.isPrefixOf, Bool.or_eq_true, Bool.and_eq_true, beq_iff_eq] at h
    rcases h with h | h
    · exact h1 h.2.1.symm
    · exact h2 h.2.1.symm
  · intro h
    simp only [List.isPrefixOf, Bool.and_eq_true, beq_iff_eq] at h
    exact h1 h.2.1.symm
theorem tag_close {t : Int} (h : clsT t ≠ 0) (h0 : t ≠ 0) (N : Nat) (X : List UInt8) : noteL ([60, 47] ++ (nameT t).data.toList ++ 62 :: X) = none ∧
    ∃ lo hi, tagL N ([60, 47] ++ (nameT t).data.toList ++ 62 :: X) = some (⟨3, (nameT t).data.toList, [], [], false, lo, hi⟩, X) := by
  obtain ⟨h1, ⟨c, l, hc, h2, h3, h4, h5⟩, _⟩ := nameT_good h h0
  generalize hn : (nameT t).data.toList = nm at h1 hc
  have e : [60, 47] ++ nm ++ 62 :: X = 60 :: 47 :: (nm ++ 62 :: X) := by simp
  rw [e]
  refine ⟨note_name (by decide) (by decide), ?_⟩
  have hR : tagR (60 :: 47 :: (nm ++ 62 :: X)) = nm ++ 62 :: X := rfl
  obtain ⟨t1, t2⟩ := span_take (p := alnumB) (l := nm) (r := 62 :: X) (fun c hc => (h1 c hc).1) (fun c hc => by simp at hc; rw [← hc]; rfl)
  have hl : headP letterB (nm ++ 62 :: X) = true := by rw [hc]; exact h2
  refine ⟨N - (60 :: 47 :: (nm ++ 62 :: X)).length, N - X.length, ?_⟩
  unfold tagL
  rw [hR, if_pos hl, if_pos (show closeB (60 :: 47 :: (nm ++ 62 :: X)) = true from rfl)]
  unfold closeL
  rw [hR, t2]
  have hN : tagN (60 :: 47 :: (nm ++ 62 :: X)) = nm := by unfold tagN; rw [hR, t1, smalls_same fun c hc => (h1 c hc).2]
  rw [hN]
  rfl
def IsR (l : List UInt8) : Prop := ∃ rs : List Int, (∀ r ∈ rs, Utf8.valid r = true) ∧ l = rs.flatMap fun r => (Utf8.encode r).data.toList
theorem IsR.nil : IsR [] := ⟨[], (fun _ h => nomatch h), rfl⟩
theorem IsR.app {a b : List UInt8} (ha : IsR a) (hb : IsR b) : IsR (a ++ b) := by
  obtain ⟨x, hx, rfl⟩ := ha
  obtain ⟨y, hy, rfl⟩ := hb
  exact ⟨x ++ y, fun r hr => (List.mem_append.1 hr).elim (hx r) (hy r), by rw [List.flatMap_append]⟩
theorem IsR.one {r : Int} (h : Utf8.valid r = true) : IsR (Utf8.encode r).data.toList := ⟨[r], fun x hx => by simp at hx; rw [hx]; exact h, by simp⟩
theorem IsR.byte {c : UInt8} (h : c.toNat < 128) : IsR [c] := by
  have h1 := IsR.one (r := (c.toNat : Int)) (by unfold Utf8.valid; simp; omega)
  rw [encode_nat (by omega), if_pos h] at h1
  simpa using h1
theorem IsR.ascii {l : List UInt8} (h : ∀ c ∈ l, c.toNat < 128) : IsR l := by
  induction l with
  | nil => exact IsR.nil
  | cons c l ih => exact (IsR.byte (h c (by simp))).app (ih fun c hc => h c (by simp [hc]))
theorem IsR.flat {α : Type} {l : List α} {f : α → List UInt8} (h : ∀ x ∈ l, IsR (f x)) : IsR (l.flatMap f) := by
  induction l with
  | nil => exact IsR.nil
  | cons c l ih => rw [List.flatMap_cons]; exact (h c (by simp)).app (ih fun c hc => h c (by simp [hc]))
theorem IsR.valid {l : List UInt8} (h : IsR l) : Lib.validD l = true := by
  obtain ⟨x, hx, rfl⟩ := h
  exact valid_runes x hx
theorem IsR.anew {l : List UInt8} (h : IsR l) : anewB (bs l) = bs l := by
  have h1 := valid_anew (bs l)
  rw [bs_data, h.valid] at h1
  exact of_decide_eq_true h1.symm
theorem IsR.of (s : ByteArray) : IsR (anewB s).data.toList := ⟨_, runeList_valid s s.size 0, by unfold anewB; exact runesBytes_list _⟩
theorem IsR.of_anew {s : ByteArray} (h : anewB s = s) : IsR s.data.toList := h ▸ IsR.of s
theorem escR_is (v : Bool) {r : Int} (h : Utf8.valid r = true) : IsR (escR v r) := by
  obtain ⟨n, rfl, hn⟩ := valid_cases h
  rw [escR_nat v hn]
  rcases escN_cases v n with ⟨a, e⟩ | ⟨a, e⟩ | ⟨a, e⟩ | ⟨a, e⟩ | ⟨a, _, e⟩ | ⟨_, _, _, _, _, e⟩ <;> rw [e]
  case inr.inr.inr.inr.inr =>
    have := IsR.one h
    rw [encode_nat hn] at this
    exact this
  all_goals exact IsR.ascii (by decide)
theorem esc_is (v : Bool) (s : ByteArray) : IsR (esc v s) := IsR.flat fun r hr => escR_is v (runeList_valid s _ _ r hr)
theorem named_dec {nm x : List UInt8} (h : (nm, x) ∈ namesR) (h38 : nm.head? = some 38) (X : List UInt8) : decL (nm ++ X) = x ++ decL X := by
  have h1 := (named_hit nm x X h).1
  cases nm with
  | nil => cases h38
  | cons c q =>
    obtain rfl : c = 38 := by simpa using h38
    rw [List.cons_append] at h1 ⊢
    rw [decL_amp, h1]
    congr 2
    rw [← List.cons_append, List.drop_left' rfl]
theorem escR_dec (v : Bool) {r : Int} (h : Utf8.valid r = true) (X : List UInt8) : decL (escR v r ++ X) = (Utf8.encode r).data.toList ++ decL X := by
  obtain ⟨n, rfl, hn⟩ := valid_cases h
  rw [escR_nat v hn, encode_nat hn]
  rcases escN_cases v n with ⟨a, e⟩ | ⟨a, e⟩ | ⟨a, e⟩ | ⟨a, e⟩ | ⟨a, _, e⟩ | ⟨a1, _, _, _, _, e⟩ <;> rw [e]
  case inr.inr.inr.inr.inr =>
    refine decL_front (fun c hc => ?_) X
    rcases encL_mem (by omega) hc with ⟨rfl, h1⟩ | h1
    · exact fun e => a1 (ofNat_inj' (m := 38) e (by omega) (by omega))
    · intro e; rw [e] at h1; exact absurd h1 (by decide)
  all_goals subst a
  · exact named_dec (nm := nm0) (x := [38]) (by decide) rfl X
  · exact named_dec (nm := nm1) (x := [60]) (by decide) rfl X
  · exact named_dec (nm := nm2) (x := [62]) (by decide) rfl X
  · exact named_dec (nm := nm5) (x := [194, 160]) (by decide) rfl X
  · exact named_dec (nm := nm3) (x := [34]) (by decide) rfl X
theorem escRs_dec (v : Bool) {l : List Int} (h : ∀ r ∈ l, Utf8.valid r = true) : decL (escRs v l) = l.flatMap fun r => (Utf8.encode r).data.toList := by
  induction l with
  | nil => rfl
  | cons r l ih =>
    show decL (escR v r ++ escRs v l) = _
    rw [escR_dec v (h r (by simp)), ih fun r hr => h r (by simp [hr]), List.flatMap_cons]
theorem decT_esc (v : Bool) {s : ByteArray} (h : anewB s = s) : decT (esc v s) = s.data.toList := by
  unfold decT
  rw [(esc_is v s).anew, bs_data]
  unfold esc
  rw [escRs_dec v (runeList_valid s _ _), ← runesBytes_list]
  exact congrArg (fun b : ByteArray => b.data.toList) h

/-! opening tags -/
def partM (a : AttrB) : Part := (a.1.data.toList, esc true a.2)
theorem nameC_good {c : UInt8} (h : 97 ≤ c.toNat ∧ c.toNat ≤ 122 ∨ 48 ≤ c.toNat ∧ c.toNat ≤ 57 ∨ c.toNat = 45) : nmB c = true ∧ gapB c = false ∧ smallC c = c ∧ c ≠ 62 ∧ c.toNat < 128 := by
  revert c
  exact fun {c} => all_bytes (p := fun c => (97 ≤ c.toNat ∧ c.toNat ≤ 122 ∨ 48 ≤ c.toNat ∧ c.toNat ≤ 57 ∨ c.toNat = 45) → nmB c = true ∧ gapB c = false ∧ smallC c = c ∧ c ≠ 62 ∧ c.toNat < 128) (by decide +kernel) c
theorem nameOk_good {s : ByteArray} (h : nameOk s = true) : (∀ c ∈ s.data.toList, nmB c = true ∧ gapB c = false ∧ smallC c = c ∧ c ≠ 62 ∧ c.toNat < 128) ∧ ∃ c l, s.data.toList = c :: l := by
  unfold nameOk at h
  simp only [Bool.and_eq_true] at h
  refine ⟨fun c hc => nameC_good (by simpa using List.all_eq_true.1 h.2 c hc), ?_⟩
  cases hl : s.data.toList with
  | nil =>
    have h1 := h.1.2
    rw [hl] at h1
    cases h1
  | cons c l => exact ⟨c, l, rfl⟩
theorem part_one {a : AttrB} (h : nameOk a.1 = true) (X : List UInt8) : ∃ c r2, (attrM a ++ X).dropWhile gapB = c :: r2 ∧ c ≠ 62 ∧ partL c r2 = some (partM a, X) := by
  obtain ⟨hn, c, l, hc⟩ := nameOk_good h
  have e : attrM a ++ X = 32 :: (c :: (l ++ 61 :: 34 :: (esc true a.2 ++ 34 :: X))) := by unfold attrM; rw [hc]; simp
  have h1 := hn c (by rw [hc]; simp)
  refine ⟨c, l ++ 61 :: 34 :: (esc true a.2 ++ 34 :: X), ?_, h1.2.2.2.1, ?_⟩
  · rw [e, List.dropWhile_cons_of_pos (by rfl), List.dropWhile_cons_of_neg (by rw [h1.2.1]; exact Bool.false_ne_true)]
  · obtain ⟨t1, t2⟩ := span_take (p := nmB) (l := l) (r := 61 :: 34 :: (esc true a.2 ++ 34 :: X)) (fun x hx => (hn x (by rw [hc]; simp [hx])).1) (fun x hx => by simp at hx; rw [← hx]; rfl)
    obtain ⟨v1, v2⟩ := span_take (p := neB 34) (l := esc true a.2) (r := 34 :: X) (fun x hx => by unfold neB; rw [bne_iff_ne]; exact (esc_no true _ x hx).2.2 rfl) (fun x hx => by simp at hx; rw [← hx]; rfl)
    unfold partL
    dsimp only
    rw [t2, t1]
    have hv : valueL (34 :: (esc true a.2 ++ 34 :: X)) = some (esc true a.2, X) := by
      show (if (34 : UInt8) = 34 ∨ (34 : UInt8) = 39 then (match (esc true a.2 ++ 34 :: X).dropWhile (neB 34) with
        | [] => none
        | _ :: r3 => some ((esc true a.2 ++ 34 :: X).takeWhile (neB 34), r3)) else some ((34 :: (esc true a.2 ++ 34 :: X)).takeWhile valB, (34 :: (esc true a.2 ++ 34 :: X)).dropWhile valB)) = _
      rw [if_pos (.inl rfl), v1, v2]
    show (valueL (34 :: (esc true a.2 ++ 34 :: X))).map (fun ve => ((c :: l, ve.1), ve.2)) = some (partM a, X)
    rw [hv]
    unfold partM
    rw [hc]
    rfl
theorem parts_of : ∀ (l : List AttrB), (∀ a ∈ l, nameOk a.1 = true) → ∀ X : List UInt8, ∃ sf, partsL (l.flatMap attrM ++ 62 :: X) = some (l.map partM, sf, X) := by
  intro l
  induction l with
  | nil => intro _ X; exact ⟨_, by rw [partsL_eq]; rfl⟩
  | cons a l ih =>
    intro h X
    obtain ⟨sf, hs⟩ := ih (fun a ha => h a (by simp [ha])) X
    obtain ⟨c, r2, h1, h2, h3⟩ := part_one (h a (by simp)) (l.flatMap attrM ++ 62 :: X)
    refine ⟨sf, ?_⟩
    rw [List.flatMap_cons, List.append_assoc, partsL_eq, h1]
    dsimp only
    rw [if_neg h2, h3]
    dsimp only
    rw [hs]
    rfl
theorem attr_first {pre l : List AttrB} {a : AttrB} (h : attrAt (pre ++ a :: l) a.1 = (pre.length : Int)) : ∀ b ∈ pre, b.1 ≠ a.1 := by
  intro b hb e
  unfold attrAt at h
  have hp : pre.findIdx? (fun x => decide (x.1 = a.1)) ≠ none := by
    intro hn
    rw [List.findIdx?_eq_none_iff] at hn
    have := hn b hb
    simp [e] at this
  cases hq : pre.findIdx? (fun x => decide (x.1 = a.1)) with
  | none => exact hp hq
  | some i =>
    rw [List.findIdx?_append, hq] at h
    have hi := (List.findIdx?_eq_some_iff_getElem.1 hq).1
    have h2 : (i : Int) = (pre.length : Int) := h
    omega
theorem owned_from : ∀ (l pre : List AttrB), (∀ a ∈ l, nameOk a.1 = true ∧ valueOk a.2 = true) → (∀ i a, l[i]? = some a → attrAt (pre ++ l) a.1 = ((pre.length + i : Nat) : Int)) →
    ownedF (pre.map fun a => a.1.data.toList) (l.map partM) = l := by
  intro l
  induction l with
  | nil => intro pre _ _; rfl
  | cons a l ih =>
    intro pre h hi
    obtain ⟨hn, hv⟩ := h a (by simp)
    have hs : a.1.data.toList.map smallC = a.1.data.toList := smalls_same fun c hc => ((nameOk_good hn).1 c hc).2.2.1
    have hd : decT (esc true a.2) = a.2.data.toList := decT_esc true (by unfold valueOk at hv; simp only [Bool.and_eq_true, decide_eq_true_eq] at hv; exact hv.1.2)
    have hno : ((pre.map fun a => a.1.data.toList).contains a.1.data.toList) = false := by
      rw [Bool.eq_false_iff]
      intro hc
      rw [List.contains_iff_mem] at hc
      obtain ⟨b, hb, e⟩ := List.mem_map.1 hc
      have h0 := hi 0 a rfl
      rw [Nat.add_zero] at h0
      exact attr_first h0 b hb (bytes_ext e)
    show ownedF _ ((a.1.data.toList, esc true a.2) :: l.map partM) = _
    unfold ownedF
    rw [hs, hd, bs_list, bs_list, hn, hv, hno]
    have e1 : (pre.map fun a => a.1.data.toList) ++ [a.1.data.toList] = (pre ++ [a]).map fun a => a.1.data.toList := by simp
    rw [e1, ih (pre ++ [a]) (fun a ha => h a (by simp [ha])) (fun i b hb => by
      have := hi (i + 1) b (by simpa using hb)
      rw [List.append_assoc]
      simp only [List.length_append, List.length_cons, List.length_nil]
      rw [show pre.length + (0 + 1) + i = pre.length + (i + 1) by omega]
      exact this)]
    rfl
theorem owned_of {l : List AttrB} (h : attrsMay l = true) : ownedL (l.map partM) = l := by
  have hall : ∀ (i : Nat) (a : AttrB), l[i]? = some a → nameOk a.1 = true ∧ valueOk a.2 = true ∧ attrAt l a.1 = (i : Int) := by
    intro i a hi
    unfold attrsMay at h
    have := List.all_eq_true.1 h (a, i) (by rw [List.mk_mem_zipIdx_iff_getElem?]; simpa using hi)
    simp only [Bool.and_eq_true, decide_eq_true_eq] at this
    exact ⟨this.1.1, this.1.2, this.2⟩
  refine owned_from l [] (fun a ha => ?_) fun i a hi => ?_
  · obtain ⟨i, hi⟩ := List.mem_iff_getElem?.1 ha
    exact ⟨(hall i a hi).1, (hall i a hi).2.1⟩
  · rw [List.nil_append, List.length_nil, Nat.zero_add]
    exact (hall i a hi).2.2
theorem tag_open {t : Int} {a : List AttrB} (h : clsT t ≠ 0) (h0 : t ≠ 0) (ha : attrsMay a = true) (N : Nat) (X : List UInt8) : noteL (60 :: ((nameT t).data.toList ++ (a.flatMap attrM ++ 62 :: X))) = none ∧
    ∃ sf lo hi, tagL N (60 :: ((nameT t).data.toList ++ (a.flatMap attrM ++ 62 :: X))) = some (⟨2, (nameT t).data.toList, [], a, sf, lo, hi⟩, X) := by
  obtain ⟨h1, ⟨c, l, hc, h2, h3, h4, h5⟩, _⟩ := nameT_good h h0
  generalize (nameT t).data.toList = nm at h1 hc
  obtain ⟨sf, hp⟩ := parts_of a (fun p hp => (attrsMay_ok ha p hp).1) X
  have hbeg : ∀ x, (a.flatMap attrM ++ 62 :: X).head? = some x → alnumB x = false := by
    intro x hx
    rcases attrsM_begin a X x hx with rfl | rfl <;> rfl
  obtain ⟨Y, hY⟩ : ∃ Y, a.flatMap attrM ++ 62 :: X = Y := ⟨_, rfl⟩
  rw [hY] at hp hbeg ⊢
  obtain ⟨t1, t2⟩ := span_take (p := alnumB) (l := nm) (r := Y) (fun c hc => (h1 c hc).1) hbeg
  have e : nm ++ Y = c :: (l ++ Y) := by rw [hc]; rfl
  refine ⟨by rw [e]; exact note_name h4 h5, sf, N - (60 :: (nm ++ Y)).length, N - X.length, ?_⟩
  have hcl : closeB (60 :: (nm ++ Y)) = false := by
    rw [e]
    unfold closeB
    show (c == 47) = false
    rw [beq_eq_false_iff_ne]
    exact h3
  have hR : tagR (60 :: (nm ++ Y)) = nm ++ Y := by unfold tagR; rw [hcl]; rfl
  have hl : headP letterB (nm ++ Y) = true := by rw [e]; exact h2
  unfold tagL
  rw [hR, if_pos hl, hcl, if_neg Bool.false_ne_true]
  unfold openL
  rw [hR, t2, hp]
  have hN : tagN (60 :: (nm ++ Y)) = nm := by unfold tagN; rw [hR, t1, smalls_same fun c hc => (h1 c hc).2]
  rw [hN]
  show some (Tk.mk 2 nm [] (ownedL (a.map partM)) sf _ _, X) = _
  rw [owned_of ha]
theorem boxT_iff (t : Int) : boxT t = true ↔ clsT t = 2 := by unfold boxT; rw [beq_iff_eq]
theorem isPH_iff (t : Int) : isPH t = true ↔ 2 ≤ t ∧ t ≤ 5 := by
  unfold isPH headT
  simp only [Bool.or_eq_true, beq_iff_eq, Bool.and_eq_true, decide_eq_true_eq]
  omega
theorem stPH_iff (t : Int) : stPH t = true ↔ clsT t = 2 ∨ t = 9 := by
  unfold stPH
  rw [Bool.or_eq_true, boxT_iff, beq_iff_eq]
theorem closeC_step (is stops : Int → Bool) (t : Int) {l : List Int} (hl : l ≠ []) : closeC is stops (t :: l) = if stops t && !is t then 0 else if is t then 1 else match closeC is stops l with
    | 0 => 0
    | n + 1 => n + 2 := by
  cases l with
  | nil => exact absurd rfl hl
  | cons u r => rw [closeC]; rfl
theorem line_close : ∀ ts : List Int, lineIn ts = false → closeC isPH stPH (ts ++ [1]) = 0 := by
  intro ts
  induction ts with
  | nil => intro _; rfl
  | cons t r ih =>
    intro h
    rw [List.cons_append, closeC_step _ _ _ (by simp)]
    unfold lineIn at h
    split
    · rfl
    · rename_i h1
      by_cases h2 : 2 ≤ t ∧ t ≤ 5
      · rw [if_pos h2] at h; cases h
      · rw [if_neg h2] at h
        have h3 : isPH t = false := Bool.eq_false_iff.2 fun e => h2 ((isPH_iff t).1 e)
        rw [h3, if_neg Bool.false_ne_true]
        by_cases h4 : clsT t = 2 ∨ t = 9
        · exact absurd (by rw [(stPH_iff t).2 h4, h3]; rfl) h1
        · rw [if_neg h4] at h
          rw [ih h]
theorem li_close : ∀ ts : List Int, liIn ts = false → closeC isLi stLi (ts ++ [1]) = 0 := by
  intro ts
  induction ts with
  | nil => intro _; rfl
  | cons t r ih =>
    intro h
    rw [List.cons_append, closeC_step _ _ _ (by simp)]
    unfold liIn at h
    by_cases h1 : t = 7 ∨ t = 8
    · rw [if_pos]
      unfold stLi isLi
      rcases h1 with rfl | rfl <;> rfl
    · rw [if_neg h1] at h
      have e1 : stLi t = false := by unfold stLi; rw [Bool.or_eq_false_iff, beq_eq_false_iff_ne, beq_eq_false_iff_ne]; omega
      rw [e1, Bool.false_and, if_neg Bool.false_ne_true]
      by_cases h2 : t = 9
      · rw [if_pos h2] at h; cases h
      · rw [if_neg h2] at h
        have e2 : isLi t = false := by unfold isLi; rw [beq_eq_false_iff_ne]; exact h2
        rw [e2, if_neg Bool.false_ne_true, ih h]
theorem ahead_none {t : Int} {z : ZS} {ts : List Int} (hz : tagsZ z = ts ++ [1]) (h1 : lineT t = true → lineIn ts = false) (h2 : t = 9 → liIn ts = false) : aheadZ t z = z := by
  unfold aheadZ closeZ
  dsimp only
  have e1 : (if lineT t = true then popN (closeC isPH stPH (tagsZ z)) z else z) = z := by
    split
    · rename_i h; rw [hz, line_close ts (h1 h)]; rfl
    · rfl
  rw [e1]
  split
  · rename_i h; rw [hz, li_close ts (h2 h)]; rfl
  · rfl
theorem lastText_snoc (l : List PN) (k : PN) : lastText (l ++ [k]) = if k.tag = 0 then some k else none := by
  unfold lastText
  rw [List.getLast?_append]
  rfl
theorem norm_elem {d : Int} {b l i : Bool} {n : PN} (h : PN.norm d b l i n = true) (ht : n.tag ≠ 0) : clsT n.tag ≠ 0 ∧ attrsMay n.attrs = true ∧ n.text = ⟨#[]⟩ ∧ d ≤ 40 ∧ (clsT n.tag = 5 → n.kids = []) ∧
    (clsT n.tag = 4 → PN.norms (d + 1) false l i false n.kids = true) ∧
    (clsT n.tag = 2 ∨ clsT n.tag = 3 → l = false ∧ (n.tag = 9 → i = false) ∧ PN.norms (d + 1) (clsT n.tag == 2) (clsT n.tag == 3 && n.tag != 9) (n.tag == 9 || i && n.tag != 7 && n.tag != 8) false n.kids = true) := by
  rw [PN.norm_eq] at h
  simp only [Bool.and_eq_true, decide_eq_true_eq] at h
  obtain ⟨hd, h⟩ := h
  by_cases c0 : clsT n.tag = 0
  · rw [if_pos c0] at h; cases h
  rw [if_neg c0] at h
  by_cases c1 : clsT n.tag = 1
  · exact absurd (clsT_one.1 c1) ht
  rw [if_neg c1] at h
  by_cases c5 : clsT n.tag = 5
  · rw [if_pos c5] at h
    simp only [Bool.and_eq_true, beq_iff_eq, List.isEmpty_iff] at h
    exact ⟨c0, h.1.2, empty_of h.1.1, hd, fun _ => h.2, fun e => by omega, fun e => by omega⟩
  rw [if_neg c5] at h
  by_cases c4 : clsT n.tag = 4
  · rw [if_pos c4] at h
    simp only [Bool.and_eq_true, beq_iff_eq] at h
    exact ⟨c0, h.1.2, empty_of h.1.1, hd, fun e => absurd e c5, fun _ => h.2, fun e => by omega⟩
  rw [if_neg c4] at h
  simp only [Bool.and_eq_true, Bool.not_eq_true', Bool.or_eq_false_iff, beq_iff_eq] at h
  obtain ⟨⟨h1, h2⟩, ⟨h3, h4⟩, h5⟩ := h
  refine ⟨c0, h4, empty_of h3, hd, fun e => absurd e c5, fun e => absurd e c4, fun _ => ⟨h1, fun e => ?_, h5⟩⟩
  rw [e] at h2
  simpa using h2
theorem cls_cases {t : Int} (h : clsT t ≠ 0) (h0 : t ≠ 0) : clsT t = 2 ∨ clsT t = 3 ∨ clsT t = 4 ∨ clsT t = 5 := by
  rcases name_cases h h0 with rfl | rfl | rfl | rfl | rfl | rfl | rfl | rfl | rfl | rfl | rfl | rfl | rfl | rfl | rfl | rfl <;> decide
theorem elem_ends {d : Int} {b l i : Bool} {n : PN} (h : PN.norm d b l i n = true) (ht : n.tag ≠ 0) (N : Nat) (X : List UInt8) : TagEnd N (n.outer ++ X) := by
  obtain ⟨c0, ha, hs, _⟩ := norm_elem h ht
  obtain ⟨t, a, s, ks⟩ := n
  obtain rfl : s = ⟨#[]⟩ := hs
  simp only [PN.tag, PN.attrs] at ht c0 ha
  rw [outer_elem c0 ht]
  obtain ⟨h1, sf, lo, hi, h2⟩ := tag_open c0 ht ha N (if clsT t = 5 then X else PN.outers ks ++ ([60, 47] ++ (nameT t).data.toList ++ 62 :: X))
  exact .inr ⟨_, _, _, rfl, h1, h2⟩
theorem outers_ends {d : Int} {b l i : Bool} {ks : List PN} (h : PN.norms d b l i true ks = true) {N : Nat} {X : List UInt8} (hX : TagEnd N X) : TagEnd N (PN.outers ks ++ X) := by
  cases ks with
  | nil => exact hX
  | cons k r =>
    simp only [PN.norms, Bool.and_eq_true, Bool.not_eq_true', Bool.true_and, beq_eq_false_iff_ne] at h
    show TagEnd N (k.outer ++ PN.outers r ++ X)
    rw [List.append_assoc]
    exact elem_ends h.1.2 h.1.1 N _
theorem close_one (t : Int) (a : List AttrB) (ks : List PN) (f : ZF) (r : ZS) : closeZ (· == t) (fun _ => false) (⟨t, a, ks⟩ :: f :: r) = f.put (.mk t a ⟨#[]⟩ ks) :: r := by
  unfold closeZ
  have e : closeC (· == t) (fun _ => false) (tagsZ (⟨t, a, ks⟩ :: f :: r)) = 1 := by
    show closeC (· == t) (fun _ => false) (t :: f.tag :: tagsZ r) = 1
    rw [closeC]
    simp
  rw [e]
  rfl
theorem kids_run (N : Nat) : ∀ (m : Nat) (ks : List PN) (d : Int) (line li prev : Bool) (f : ZF) (r : ZS) (cnt : Nat) (ts : List Int) (rest : List UInt8), PN.sizes ks ≤ m → PN.norms d (boxT f.tag) line li prev ks = true →
    tagsZ (f :: r) = ts ++ [1] → line = lineIn ts → li = liIn ts → d = (r.length : Int) + 1 → (prev = false → lastText f.kids = none) → cnt + PN.sizes ks ≤ 2000 → TagEnd N rest →
    runL N (PN.outers ks ++ rest) ⟨f :: r, cnt⟩ = runL N rest ⟨⟨f.tag, f.attrs, f.kids ++ ks⟩ :: r, cnt + PN.sizes ks⟩ := by
  intro m
  induction m with
  | zero =>
    intro ks d line li prev f r cnt ts rest hm hn hts h1 h2 hd hp hc he
    cases ks with
    | nil => rw [List.append_nil]; rfl
    | cons k q => have := k.size_pos; simp only [PN.sizes] at hm; omega
  | succ m ih =>
    intro ks d line li prev f r cnt ts rest hm hn hts h1 h2 hd hp hc he
    cases ks with
    | nil => rw [List.append_nil]; rfl
    | cons k q =>
      have hkp := k.size_pos
      simp only [PN.sizes] at hm hc ⊢
      simp only [PN.norms, Bool.and_eq_true] at hn
      obtain ⟨⟨hpk, hk⟩, hq⟩ := hn
      have hnext : ∀ c, c = cnt + k.size → runL N (PN.outers q ++ rest) ⟨f.put k :: r, c⟩ = runL N rest ⟨⟨f.tag, f.attrs, f.kids ++ k :: q⟩ :: r, cnt + (k.size + PN.sizes q)⟩ := by
        intro c hcc
        subst hcc
        rw [ih q d line li (k.tag == 0) (f.put k) r (cnt + k.size) ts rest (by omega) hq hts h1 h2 hd (fun e => by
          unfold ZF.put
          dsimp only
          rw [lastText_snoc, if_neg (by simpa using e)]) (by omega) he]
        unfold ZF.put
        dsimp only
        rw [List.append_assoc, Nat.add_assoc]
        rfl
      have hroom : d ≤ 40 → roomB cnt (f :: r).length = true := by
        intro h40
        unfold roomB
        rw [List.length_cons]
        simp only [Bool.and_eq_true, decide_eq_true_eq]
        omega
      show runL N (k.outer ++ PN.outers q ++ rest) ⟨f :: r, cnt⟩ = _
      rw [List.append_assoc]
      by_cases ht : k.tag = 0
      · -- a text
        have hkt : PN.norms d (boxT f.tag) line li true q = true := by rw [ht] at hq; exact hq
        rcases norm_is hk with ⟨_, s, rfl, hs, hsv⟩ | ⟨hne, _⟩
        · have hlast : lastText f.kids = none := hp (by
            have e : ((PN.mk 0 [] s []).tag == 0) = true := rfl
            rw [e, Bool.and_true] at hpk
            simpa using hpk)
          rw [outer_text, runL_text (esc_nil hs) (fun c hc => (esc_no false s c hc).1) (outers_ends hkt he), decT_esc false hsv]
          rw [PN.norm_eq] at hk
          simp only [Bool.and_eq_true, decide_eq_true_eq] at hk
          obtain ⟨h40, hk⟩ := hk
          have hk : textOk (boxT f.tag) (PN.mk 0 [] s []) = true := hk
          unfold textOk at hk
          rw [Bool.and_eq_true] at hk
          have hbl : (boxT f.tag && s.data.toList.all blankB) = false := by
            have := hk.2
            rw [Bool.not_eq_true'] at this
            exact this
          have e : textZ s.data.toList ⟨f :: r, cnt⟩ = ⟨f.put (.mk 0 [] s []) :: r, cnt + 1⟩ := by
            unfold textZ
            dsimp only
            rw [hbl, if_neg Bool.false_ne_true, hlast]
            dsimp only
            rw [hroom h40, if_pos rfl, bs_list]
            rfl
          rw [e]
          exact hnext _ (by rw [PN.size_eq]; rfl)
        · exact absurd ht hne
      · obtain ⟨c0, ha, hs, h40, k5, k4, k23⟩ := norm_elem hk ht
        obtain ⟨t, a, s, ks⟩ := k
        obtain rfl : s = ⟨#[]⟩ := hs
        simp only [PN.tag, PN.attrs, PN.kids] at ht c0 ha k5 k4 k23
        have hfind := (nameT_good c0 ht).2.2
        rw [outer_elem c0 ht]
        obtain ⟨g1, sf, lo, hi, g2⟩ := tag_open c0 ht ha N (if clsT t = 5 then PN.outers q ++ rest else PN.outers ks ++ ([60, 47] ++ (nameT t).data.toList ++ 62 :: (PN.outers q ++ rest)))
        rw [runL_tag g1 g2 (show (2 : Int) ≠ 1 by decide)]
        have hah : aheadZ t (f :: r) = f :: r := by
          refine ahead_none hts (fun hl => ?_) fun e9 => ?_
          · rw [← h1]
            unfold lineT at hl
            simp only [Bool.or_eq_true, beq_iff_eq] at hl
            exact (k23 hl.symm).1
          · rw [← h2]
            exact (k23 (.inr (by rw [e9]; rfl))).2.1 e9
        have htok : tokenZ ⟨2, (nameT t).data.toList, [], a, sf, lo, hi⟩ ⟨f :: r, cnt⟩ = openZ t a ⟨f :: r, cnt⟩ := by
          unfold tokenZ
          dsimp only
          rw [if_neg (by decide), hfind]
          dsimp only
          rw [if_neg (by decide), hah, hroom h40, if_pos rfl]
        rw [htok]
        by_cases c5 : clsT t = 5
        · rw [if_pos c5]
          obtain rfl := k5 c5
          unfold openZ
          rw [if_pos c5]
          exact hnext _ (by rw [PN.size_eq]; rfl)
        · rw [if_neg c5]
          unfold openZ
          rw [if_neg c5]
          have hsz : (PN.mk t a ⟨#[]⟩ ks).size = 1 + PN.sizes ks := by rw [PN.size_eq]; simp only [PN.kids]; omega
          have hkids : ∃ line' li', PN.norms (d + 1) (boxT t) line' li' false ks = true ∧ line' = lineIn (t :: ts) ∧ li' = liIn (t :: ts) := by
            rcases cls_cases c0 ht with c | c | c | c
            · have hb := lineIn_big (.inl c) ts
              refine ⟨_, _, (k23 (.inl c)).2.2, hb.1.symm, ?_⟩
              rw [hb.2, ← h2]
            · have hb := lineIn_big (.inr c) ts
              refine ⟨_, _, (k23 (.inr c)).2.2, hb.1.symm, ?_⟩
              rw [hb.2, ← h2]
            · have hb := lineIn_inline (.inl c) ts
              have e : boxT t = false := by unfold boxT; rw [c]; rfl
              exact ⟨line, li, e ▸ k4 c, by rw [hb.1, h1], by rw [hb.2, h2]⟩
            · exact absurd c c5
          obtain ⟨line', li', hkn, e1, e2⟩ := hkids
          obtain ⟨x1, lo', hi', x2⟩ := tag_close c0 ht N (PN.outers q ++ rest)
          refine (ih ks (d + 1) line' li' false ⟨t, a, []⟩ (f :: r) (cnt + 1) (t :: ts) ([60, 47] ++ (nameT t).data.toList ++ 62 :: (PN.outers q ++ rest)) (by omega) hkn (by show t :: tagsZ (f :: r) = _; rw [hts]; rfl) e1 e2 (by rw [hd]; simp) (fun _ => rfl) (by omega) (.inr ⟨_, _, _, rfl, x1, x2⟩)).trans ?_
          refine (runL_tag (q := 47 :: ((nameT t).data.toList ++ 62 :: (PN.outers q ++ rest))) x1 x2 (show (3 : Int) ≠ 1 by decide)).trans ?_
          have hcl : tokenZ ⟨3, (nameT t).data.toList, [], [], false, lo', hi'⟩ ⟨⟨t, a, [] ++ ks⟩ :: f :: r, cnt + 1 + PN.sizes ks⟩ = ⟨f.put (.mk t a ⟨#[]⟩ ks) :: r, cnt + 1 + PN.sizes ks⟩ := by
            unfold tokenZ
            dsimp only
            rw [if_neg (by decide), hfind]
            dsimp only
            rw [if_pos rfl, List.nil_append, close_one]
          rw [hcl]
          exact hnext _ (by rw [hsz]; omega)
theorem host_of {ks : List PN} (h : PN.norms 1 true false false false ks = true) (hs : PN.sizes ks + 1 ≤ 2000) : hostZ (tokens (PN.outers ks)) = .mk 1 [] ⟨#[]⟩ ks := by
  unfold hostZ
  rw [runZ_L]
  have := kids_run (PN.outers ks).length (PN.sizes ks) ks 1 false false false ⟨1, [], []⟩ [] 1 [] [] (Nat.le_refl _) h rfl rfl rfl rfl (fun _ => rfl) (by omega) (.inl rfl)
  rw [List.append_nil] at this
  rw [show startZ = ⟨[⟨1, [], []⟩], 1⟩ from rfl, this, runL_nil]
  rfl
theorem norms_anew : ∀ (m : Nat) (ks : List PN) (d : Int) (b l i p : Bool), PN.sizes ks ≤ m → PN.norms d b l i p ks = true → IsR (PN.outers ks) := by
  intro m
  induction m with
  | zero =>
    intro ks d b l i p hm hn
    cases ks with
    | nil => exact IsR.nil
    | cons k q => have := k.size_pos; simp only [PN.sizes] at hm; omega
  | succ m ih =>
    intro ks d b l i p hm hn
    cases ks with
    | nil => exact IsR.nil
    | cons k q =>
      have hkp := k.size_pos
      have hse := k.size_eq
      simp only [PN.sizes] at hm
      simp only [PN.norms, Bool.and_eq_true] at hn
      obtain ⟨⟨_, hk⟩, hq⟩ := hn
      refine IsR.app ?_ (ih q _ _ _ _ _ (by omega) hq)
      rcases norm_is hk with ⟨_, s, rfl, hs, hsv⟩ | ⟨ht, _⟩
      · rw [outer_text]; exact esc_is false s
      · obtain ⟨c0, ha, hs, h40, k5, k4, k23⟩ := norm_elem hk ht
        obtain ⟨t, a, s, ks⟩ := k
        obtain rfl : s = ⟨#[]⟩ := hs
        simp only [PN.tag, PN.attrs, PN.kids] at ht c0 ha k5 k4 k23 hse
        have hnm : IsR (nameT t).data.toList := by
          rcases name_cases c0 ht with rfl | rfl | rfl | rfl | rfl | rfl | rfl | rfl | rfl | rfl | rfl | rfl | rfl | rfl | rfl | rfl <;> exact IsR.ascii (by decide)
        have hat : IsR (a.flatMap attrM) := IsR.flat fun p hp => by
          obtain ⟨hn, _⟩ := nameOk_good (attrsMay_ok ha p hp).1
          unfold attrM
          exact ((((IsR.byte (c := 32) (by decide)).app (IsR.ascii fun c hc => (hn c hc).2.2.2.2)).app (IsR.ascii (by decide))).app (esc_is true _)).app (IsR.byte (by decide))
        have e := outer_elem (a := a) (ks := ks) c0 ht []
        rw [List.append_nil] at e
        have hY : IsR (if clsT t = 5 then [] else PN.outers ks ++ ([60, 47] ++ (nameT t).data.toList ++ [62])) := by
          split
          · exact IsR.nil
          · rename_i c5
            refine IsR.app ?_ (((IsR.ascii (l := [60, 47]) (by decide)).app hnm).app (IsR.byte (c := 62) (by decide)))
            rcases cls_cases c0 ht with c | c | c | c
            · exact ih ks _ _ _ _ _ (by omega) (k23 (.inl c)).2.2
            · exact ih ks _ _ _ _ _ (by omega) (k23 (.inr c)).2.2
            · exact ih ks _ _ _ _ _ (by omega) (k4 c)
            · exact absurd c c5
        rw [e]
        generalize (if clsT t = 5 then [] else PN.outers ks ++ ([60, 47] ++ (nameT t).data.toList ++ [62])) = Y at hY
        exact (IsR.byte (c := 60) (by decide)).app (hnm.app (hat.app ((IsR.byte (c := 62) (by decide)).app hY)))
end Go.Proofs.YtalaajbajgdglaaGreatDoor
namespace Go.Proofs.YtalaajbajgdglaaGreatDoor
open Go Go.RowKit Go.BigFrame
theorem unsafeString_none (w : World) (p : Option Addr) : (Builtin.unsafeString_ #[121, 3] 9 #[.pointer p, .int .i64 0]).run Tryz.prog w = .ok (.string ⟨#[]⟩) w := Lib.run_unsafeString_none _ _ _ _ p
theorem String_nil (B b : Nat) (p : Value) (w : World) (hbk : w.heap[b]? = some (.cells #[p, .slice none 0 0] 84 (0, 0))) :
    Calls Tryz.prog 38 #[.pointer (some ⟨b, 0, none⟩)] w fun e w' => e = .returned (.string ⟨#[]⟩) ∧ Below B w w' := by
  have hUS := unsafeString_none
  have c1 : w.drew.cell? ⟨b, 1, none⟩ = some (.slice none 0 0) := by
    have : w.drew.heap[b]? = some (.cells #[p, .slice none 0 0] 84 (0, 0)) := hbk
    rw [Lib.cell_of_heap this]; rfl
  have hSD : (Builtin.unsafeSliceData_ #[71] 121 #[.slice none 0 0]).run Tryz.prog w.drew = .ok (.pointer none) w.drew := rfl
  have mixed : Tryz.prog.follows .mixedOrders = true := by kernel_rfl
  go_enter Tryz.func38, Tryz.ntmps38
  go_wp2
  go_region_o
  all_goals (go_wp2; go_ret; exact ⟨rfl, Below.drew (Below.refl B w)⟩)
theorem String_noroom (B b g : Nat) (p : Value) (cur : Array Value) (w : World) (hBw : B ≤ w.heap.size) (hbk : w.heap[b]? = some (.cells #[p, .slice (some ⟨g, 0, none⟩) 0 0] 84 (0, 0))) (fz : Nat × Nat) (hg : w.heap[g]? = some (.cells cur 5 fz)) :
    Calls Tryz.prog 38 #[.pointer (some ⟨b, 0, none⟩)] w fun e w' => e = .returned (.string ⟨#[]⟩) ∧ Below B w w' := by
  have hUS := unsafeString_none
  have hlt : b < w.heap.size := (Array.getElem?_eq_some_iff.1 hbk).1
  have c1 : w.drew.cell? ⟨b, 1, none⟩ = some (.slice (some ⟨g, 0, none⟩) 0 0) := by
    have : w.drew.heap[b]? = some (.cells #[p, .slice (some ⟨g, 0, none⟩) 0 0] 84 (0, 0)) := hbk
    rw [Lib.cell_of_heap this]; rfl
  have hSD : (Builtin.unsafeSliceData_ #[71] 121 #[.slice (some ⟨g, 0, none⟩) 0 0]).run Tryz.prog w.drew = .ok (.pointer (some ⟨w.drew.heap.size, 0, none⟩)) (w.drew.alloc (.view ⟨g, 0, none⟩ 5)) :=
    Lib.run_unsafeSliceData_zero w.drew _ _ 5 Tryz.underlying121 ⟨g, 0, none⟩ 0 (5, cur.size) (by have hg' : w.drew.heap[g]? = some (.cells cur 5 fz) := hg; simp [World.shape?, hg'])
  have c2 : (w.drew.alloc (.view ⟨g, 0, none⟩ 5)).cell? ⟨b, 1, none⟩ = some (.slice (some ⟨g, 0, none⟩) 0 0) := by
    have : (w.drew.alloc (.view ⟨g, 0, none⟩ 5)).heap[b]? = _ := (Lib.alloc_old w.drew _ b hlt).trans hbk
    rw [Lib.cell_of_heap this]; rfl
  have c3 : (w.alloc (.view ⟨g, 0, none⟩ 5)).drew.cell? ⟨b, 1, none⟩ = some (.slice (some ⟨g, 0, none⟩) 0 0) := c2
  have c0 : w.cell? ⟨b, 1, none⟩ = some (.slice (some ⟨g, 0, none⟩) 0 0) := c1
  have mixed : Tryz.prog.follows .mixedOrders = true := by kernel_rfl
  go_enter Tryz.func38, Tryz.ntmps38
  go_wp2
  go_region_o
  all_goals (go_wp2; go_ret; exact ⟨rfl, (Below.drew (Below.refl B w)).alloc hBw _⟩)
theorem String_room (B b g cap : Nat) (p : Value) (w : World) (hc0 : cap ≠ 0) (hbk : w.heap[b]? = some (.cells #[p, .slice (some ⟨g, 0, none⟩) 0 cap] 84 (0, 0))) :
    Calls Tryz.prog 38 #[.pointer (some ⟨b, 0, none⟩)] w fun e w' => e = .returned (.string ⟨#[]⟩) ∧ Below B w w' := by
  have hUS := unsafeString_none
  have c1 : w.drew.cell? ⟨b, 1, none⟩ = some (.slice (some ⟨g, 0, none⟩) 0 cap) := by
    have : w.drew.heap[b]? = some (.cells #[p, .slice (some ⟨g, 0, none⟩) 0 cap] 84 (0, 0)) := hbk
    rw [Lib.cell_of_heap this]; rfl
  have hSD : (Builtin.unsafeSliceData_ #[71] 121 #[.slice (some ⟨g, 0, none⟩) 0 cap]).run Tryz.prog w.drew = .ok (.pointer (some ⟨g, 0, none⟩)) w.drew :=
    Lib.run_unsafeSliceData_row _ _ _ _ _ _ hc0
  clear hc0
  have mixed : Tryz.prog.follows .mixedOrders = true := by kernel_rfl
  go_enter Tryz.func38, Tryz.ntmps38
  go_wp2
  go_region_o
  all_goals (go_wp2; go_ret; exact ⟨rfl, Below.drew (Below.refl B w)⟩)
theorem String_any (B b : Nat) (l : List UInt8) (w : World) (h : PrF B b (Lib.byteCells l) w) (hBw : B ≤ w.heap.size) :
    Calls Tryz.prog 38 #[.pointer (some ⟨b, 0, none⟩)] w fun e w' => e = .returned (.string ⟨l.toArray⟩) ∧ Below B w w' := by
  cases l with
  | cons x r => exact String_k B b (x :: r) w h (by simp)
  | nil =>
    obtain ⟨p, hA⟩ : ∃ p, PrA B b p [] w := by
      rcases h with h | h
      · exact ⟨_, h⟩
      · exact ⟨_, h⟩
    obtain ⟨hB, v, hbk, hown, hne⟩ := hA
    rcases hown.2 with ⟨rfl, _⟩ | ⟨g, cap, cur, fz, rfl, hbg, hg, _, _, _, _, _⟩
    · exact String_nil B b p w hbk
    · by_cases hc0 : cap = 0
      · subst hc0
        exact String_noroom B b g p cur w hBw hbk fz hg
      · exact String_room B b g cap p w hc0 hbk
theorem PrF.new (w : World) (B : Nat) (h : B ≤ w.heap.size) : PrF B w.heap.size (Lib.byteCells []) (w.alloc (.cells #[.pointer none, .slice none 0 0] 84)) :=
  .inl ⟨h, .slice none 0 0, heap_alloc_new w _, ⟨rfl, .inl ⟨rfl, rfl⟩⟩, by simp [Value.ownBlock]⟩
theorem Inner_any (w : World) (n : PN) (v : Value) (hr : RdN w n v) (hc : n.cost ≤ 100000000000000) : Calls Tryz.prog 17 #[v] w (RVal (.string ⟨n.inner.toArray⟩) w) := by
  obtain ⟨y1, y2, y3, y4, rfl⟩ := hr.shape
  have x1 := ((Ext.refl w).alloc (.cells #[.int .i64 n.tag, .slice y1 n.attrs.length y2, .string n.text, .slice y3 n.kids.length y4] 26))
  have bb := heap_alloc_new w (.cells #[.int .i64 n.tag, .slice y1 n.attrs.length y2, .string n.text, .slice y3 n.kids.length y4] 26)
  have HR := qh hr
  have hce : PN.costs n.kids ≤ 100000000000000 := by rw [PN.cost_eq] at hc; first | (rw [PN.cost_eq]; omega) | omega
  clear hr hc
  go_enter Tryz.func17, Tryz.ntmps17
  go_upto_region 2 with fail
  obtain ⟨w1, hw1⟩ : ∃ w1 : World, w1 = w.alloc (.cells #[.int .i64 n.tag, .slice y1 n.attrs.length y2, .string n.text, .slice y3 n.kids.length y4] 26) := ⟨_, rfl⟩
  have hsz : w1.heap.size = w.heap.size + 1 := by rw [hw1]; simp
  rw [← hw1] at x1 bb ⊢
  clear hw1
  have p2 := PrF.new w1 w.heap.size x1.size
  have x2 := x1.alloc (.cells #[.pointer none, .slice none 0 0] 84)
  have b2 := ((Ext.refl w1).alloc (.cells #[.pointer none, .slice none 0 0] 84)).block bb
  rw [hsz] at p2
  obtain ⟨w2, hw2⟩ : ∃ w2 : World, w2 = w1.alloc (.cells #[.pointer none, .slice none 0 0] 84) := ⟨_, rfl⟩
  rw [← hw2] at p2 x2 b2 ⊢
  clear hw2 hsz bb x1
  have hcall := inner_any w n (w.heap.size + 1) [] w2 _ HR.out x2 p2 (by simpa using hce)
  rw [List.nil_append] at hcall
  have HCALL := qh hcall
  have n0 := cellOf b2 (i := 0) (v := .int .i64 n.tag) rfl
  have n1 := cellOf b2 (i := 1) (v := .slice y1 n.attrs.length y2) rfl
  have n2 := cellOf b2 (i := 2) (v := .string n.text) rfl
  have n3 := cellOf b2 (i := 3) (v := .slice y3 n.kids.length y4) rfl
  have X2 := qh x2
  clear hcall p2 b2 x2 hce
  go_wp2_with fail
  refine HCALL.out.mono ?_
  rintro e w3 ⟨rfl, p3, b3, _⟩
  have X3 := qh (X2.out.trans' b3)
  clear n0 n1 n2 n3
  have HST := qh (String_any w.heap.size (w.heap.size + 1) n.inner w3 p3 X3.out.size)
  clear p3 b3
  go_wp2_with (go_at_call 38; refine HST.out.mono ?_)
  rintro e w4 ⟨rfl, b4⟩
  have X4 := qh (X3.out.trans' b4)
  clear b4
  go_wp2_with fail
  go_ret
  exact ⟨rfl, X4.out⟩
structure ExtB (b : Nat) (w w' : World) : Prop where
  os : w'.os = w.os
  tape : w'.tape = w.tape
  output : w'.output = w.output
  size : w.heap.size ≤ w'.heap.size
  block : ∀ k, k < w.heap.size → k ≠ b → w'.heap[k]? = w.heap[k]?
theorem ExtB.refl (b : Nat) (w : World) : ExtB b w w := ⟨rfl, rfl, rfl, Nat.le_refl _, fun _ _ _ => rfl⟩
theorem ExtB.trans {b : Nat} {x y z : World} (h : ExtB b x y) (k : ExtB b y z) : ExtB b x z :=
  ⟨k.os.trans h.os, k.tape.trans h.tape, k.output.trans h.output, Nat.le_trans h.size k.size, fun i hi hb => (k.block i (Nat.lt_of_lt_of_le hi h.size) hb).trans (h.block i hi hb)⟩
theorem Ext.toB {w w' : World} (h : Ext w w') (b : Nat) : ExtB b w w' := ⟨Below.os h, Below.tape h, Below.output h, Below.size h, fun k hk _ => Below.block h k hk⟩
theorem ExtB.setCell {b : Nat} {a w : World} (h : ExtB b a w) {p : Addr} (hp : p.block = b ∨ a.heap.size ≤ p.block) (u : Value) : ExtB b a (w.setCell p u) :=
  ⟨h.os, h.tape, h.output, by simpa [World.setCell] using h.size, fun k hk hb => (Below.heap_setCell w p u k (by rcases hp with e | e <;> omega)).trans (h.block k hk hb)⟩
theorem ExtB.below {b B : Nat} {w w' : World} (h : ExtB b w w') (hB : B ≤ b) (hs : B ≤ w.heap.size) : Below B w w' := ⟨h.os, h.tape, h.output, h.size, fun k hk => h.block k (by omega) (by omega)⟩
theorem ExtB.heap {b : Nat} {w w' : World} (h : ExtB b w w') {k : Nat} {o : Obj} (hk : w.heap[k]? = some o) (hb : k ≠ b) : w'.heap[k]? = some o :=
  (h.block k (Array.getElem?_eq_some_iff.1 hk).1 hb).trans hk
theorem ExtB.ext {b : Nat} {w0 w w' : World} (h : ExtB b w w') (k : Ext w0 w) (hb : w0.heap.size ≤ b) : Ext w0 w' := Below.trans k (h.below hb (Below.size k))
theorem conv_pair (s : ByteArray) (hs : s.size ≤ 100000) (w : World) : ∃ (v : Value) (w' : World), (Go.convert 9 125 (.string s)).run Tryz.prog w = .ok v w' ∧ (Go.convert 125 9 v).run Tryz.prog w' = .ok (.string (anewB s)) w' ∧ Ext w w' := by
  have h1 := run_runes_of_string (P := Tryz.prog) w 9 125 21 s Tryz.underlying9 Tryz.underlying125 Tryz.underlying21 (by have := size_runesFrom s s.size 0 #[]; simp at this; omega)
  have e1 : Conv.runesFrom s s.size 0 #[] = ((runeList s s.size 0).map (Value.int .i32)).toArray := by rw [runesFrom_eq]; simp
  have hz : anewB s = runesBytes (runeList s s.size 0) := rfl
  rw [e1] at h1
  rw [hz]
  clear hz e1 hs
  generalize runeList s s.size 0 = l at *
  generalize hk : grownCap w (List.map (Value.int IntKind.i32) l).toArray.size 0 21 = K at *
  have hge := grownCap_ge w (List.map (Value.int IntKind.i32) l).toArray.size 0 21
  rw [hk] at hge
  clear hk
  generalize hC : (List.map (Value.int IntKind.i32) l).toArray ++ Array.replicate (K - (List.map (Value.int IntKind.i32) l).toArray.size) (Value.int IntKind.i32 0) = C at *
  have h2 := run_convert_runes (P := Tryz.prog) (w.drew.alloc (.cells C 21)) 125 9 21 ⟨w.heap.size, 0, none⟩ l.length K l (Nat.le_refl _) Tryz.underlying125 Tryz.underlying21 Tryz.underlying9
    (by
      intro j hj
      have hb : (w.drew.alloc (.cells C 21)).heap[w.heap.size]? = some (.cells C 21 (0, 0)) := heap_alloc_new w.drew _
      rw [Addr.add_lit, Nat.zero_add]
      refine cellOf hb ?_
      rw [← hC, Array.getElem?_append_left (by simpa using hj)]
      simp [hj])
  rw [List.take_length] at h2
  simp only [List.size_toArray, List.length_map] at h1
  exact ⟨_, _, h1, h2, (Ext.refl w).drew.alloc _⟩
theorem isEmpty_no {α : Type} {l : List α} (h : ¬ l.length = 0) : l.isEmpty = false := by
  cases l with
  | nil => exact absurd rfl h
  | cons a l => rfl
theorem textP_any (n : PN) (v : Value) (p : Value) (d : Int) (box line li : Bool) (w : World) (hr : RdN w n v) (hs : n.text.size ≤ 100000) :
    Calls Tryz.prog 118 #[p, v, .agg #[.int .i64 d, .bool box, .bool line, .bool li]] w (RBool (textOk box n) w) := by
  obtain ⟨y1, y2, y3, y4, rfl⟩ := hr.shape
  have x1 := ((Ext.refl w).alloc (.cells #[.int .i64 n.tag, .slice y1 n.attrs.length y2, .string n.text, .slice y3 n.kids.length y4] 26))
  have bb := heap_alloc_new w (.cells #[.int .i64 n.tag, .slice y1 n.attrs.length y2, .string n.text, .slice y3 n.kids.length y4] 26)
  obtain ⟨r, hr9⟩ : ∃ r, textOk box n = r := ⟨_, rfl⟩
  rw [hr9]
  have HR9 := qh hr9
  have HS := qh hs
  clear hr hr9 hs
  go_enter Tryz.func118, Tryz.ntmps118
  go_upto_region 1 with fail
  obtain ⟨w1, hw1⟩ : ∃ w1 : World, w1 = w.alloc (.cells #[.int .i64 n.tag, .slice y1 n.attrs.length y2, .string n.text, .slice y3 n.kids.length y4] 26) := ⟨_, rfl⟩
  have hsz : w1.heap.size = w.heap.size + 1 := by rw [hw1]; simp
  rw [← hw1] at x1 bb ⊢
  clear hw1
  have x2 := x1.alloc (.cells #[.int .i64 d, .bool box, .bool line, .bool li] 78)
  have b2 := ((Ext.refl w1).alloc (.cells #[.int .i64 d, .bool box, .bool line, .bool li] 78)).block bb
  have a2 := heap_alloc_new w1 (.cells #[.int .i64 d, .bool box, .bool line, .bool li] 78)
  rw [hsz] at a2
  obtain ⟨w2, hw2⟩ : ∃ w2 : World, w2 = w1.alloc (.cells #[.int .i64 d, .bool box, .bool line, .bool li] 78) := ⟨_, rfl⟩
  rw [← hw2] at x2 b2 a2 ⊢
  clear hw2 hsz x1 bb
  have n1 := cellOf b2 (i := 1) (v := .slice y1 n.attrs.length y2) rfl
  have n2 := cellOf b2 (i := 2) (v := .string n.text) rfl
  have n3 := cellOf b2 (i := 3) (v := .slice y3 n.kids.length y4) rfl
  have B2 := qh b2
  have A2 := qh a2
  have X2 := qh x2
  clear b2 a2 x2
  by_cases h1 : n.attrs.length = 0
  · have e1 : ((n.attrs.length : Int) == 0) = true := by simpa using h1
    have H1 := qh h1
    clear h1
    by_cases h2 : n.kids.length = 0
    · have e2 : ((n.kids.length : Int) == 0) = true := by simpa using h2
      have H2 := qh h2
      clear h2
      by_cases h3 : n.text.size = 0
      · have e3 : (n.text.toList == ([] : List UInt8)) = true := by rw [ByteArray.toList_eq, show n.text.data.toList = [] from List.eq_nil_of_length_eq_zero h3]; rfl
        have hr0 : r = false := by rw [← HR9.out]; unfold textOk; simp [h3]
        subst hr0
        clear h3
        go_wp2_with fail
        go_ret
        exact ⟨rfl, X2.out⟩
      · have e3 : (n.text.toList == ([] : List UInt8)) = false := by
          rw [ByteArray.toList_eq]
          cases hd : n.text.data.toList with
          | nil => exact absurd (show n.text.size = 0 by show n.text.data.toList.length = 0; rw [hd]; rfl) h3
          | cons a l => rfl
        obtain ⟨cv, cw, q1, q2, q3⟩ := conv_pair n.text HS.out w2
        have n2' := q3.cell n2
        have a1 := q3.cell (cellOf A2.out (i := 1) (v := .bool box) rfl)
        have X3 := qh (X2.out.trans q3)
        have H3 := qh h3
        clear h3 q3
        by_cases h4 : anewB n.text = n.text
        · have e4 : ((anewB n.text).toList == n.text.toList) = true := by rw [str_eq]; exact decide_eq_true h4
          have hr4 : r = !(box && n.text.data.toList.all blankB) := by
            rw [← HR9.out]; unfold textOk
            have k1 : n.attrs.isEmpty = true := by simpa using H1.out
            have k2 : n.kids.isEmpty = true := by simpa using H2.out
            have k3 : decide (n.text.size ≠ 0) = true := by simpa using H3.out
            rw [k1, k2, k3, decide_eq_true h4]; simp
          rw [h4] at q2 e4
          have HR4 := qh hr4
          clear h4 hr4
          cases box with
          | false =>
            have hr0 : r = true := by rw [HR4.out]; rfl
            subst hr0
            go_wp2_with fail
            go_ret
            exact ⟨rfl, X3.out⟩
          | true =>
            have HT := qh (Trim_any n.text ⟨#[32, 9, 10, 12, 13]⟩ cw (by have := HS.out; omega) (by decide) (by
              intro j c hj
              have : c ∈ ([32, 9, 10, 12, 13] : List UInt8) := List.mem_of_getElem? hj
              revert this
              simp only [List.mem_cons, List.not_mem_nil, or_false]
              rintro (rfl | rfl | rfl | rfl | rfl) <;> decide))
            obtain ⟨tz, htz⟩ : ∃ tz : ByteArray, (⟨(Lib.trimS n.text.data.toList (⟨#[32, 9, 10, 12, 13]⟩ : ByteArray).data.toList).toArray⟩ : ByteArray) = tz := ⟨_, rfl⟩
            rw [htz] at HT
            have hr0 : r = !(tz.toList == ([] : List UInt8)) := by
              rw [HR4.out, ByteArray.toList_eq, ← htz]
              have hb := trim_blank n.text.data.toList
              have e9 : (Lib.trimS n.text.data.toList [32, 9, 10, 12, 13] == ([] : List UInt8)) = n.text.data.toList.all blankB := by
                rw [Bool.eq_iff_iff, beq_iff_eq]; exact hb
              rw [Bool.true_and, ← e9]
            have HR0 := qh hr0
            clear hr0 htz
            have ht : (tz.toList == ([] : List UInt8)) = true ∨ (tz.toList == ([] : List UInt8)) = false := by cases (tz.toList == ([] : List UInt8)); exact .inr rfl; exact .inl rfl
            rcases ht with ht | ht
            · have hr1 : r = false := by rw [HR0.out, ht]; rfl
              subst hr1
              go_wp2_with (go_at_call 98; refine HT.out.mono ?_)
              rintro e w4 ⟨rfl, x4⟩
              have X4 := qh (X3.out.trans x4)
              clear x4
              go_wp2_with fail
              go_ret
              exact ⟨rfl, X4.out⟩
            · have hr1 : r = true := by rw [HR0.out, ht]; rfl
              subst hr1
              go_wp2_with (go_at_call 98; refine HT.out.mono ?_)
              rintro e w4 ⟨rfl, x4⟩
              have X4 := qh (X3.out.trans x4)
              clear x4
              go_wp2_with fail
              go_ret
              exact ⟨rfl, X4.out⟩
        · have e4 : ((anewB n.text).toList == n.text.toList) = false := by rw [str_eq]; exact decide_eq_false h4
          have hr0 : r = false := by rw [← HR9.out]; unfold textOk; rw [decide_eq_false h4]; simp
          subst hr0
          clear h4
          go_wp2_with fail
          go_ret
          exact ⟨rfl, X3.out⟩
    · have e2 : ((n.kids.length : Int) == 0) = false := by simpa using h2
      have hr0 : r = false := by rw [← HR9.out]; unfold textOk; rw [isEmpty_no h2]; simp
      subst hr0
      clear h2
      go_wp2_with fail
      go_ret
      exact ⟨rfl, X2.out⟩
  · have e1 : ((n.attrs.length : Int) == 0) = false := by simpa using h1
    have hr0 : r = false := by rw [← HR9.out]; unfold textOk; rw [isEmpty_no h1]; simp
    subst hr0
    clear h1
    go_wp2_with fail
    go_ret
    exact ⟨rfl, X2.out⟩
def Looked (b c k : Nat) (ok : Bool) (w : World) (e : Ending) (w' : World) : Prop :=
  ∃ c' : Nat, e = .returned (.bool (ok && decide (c + k ≤ 2000))) ∧ ExtB b w w' ∧ One w' b (.int .i64 c') 75 ∧ ((ok && decide (c + k ≤ 2000)) = true → c' = c + k)
def NOk (w0 : World) (n : PN) : Prop := ∀ (b c : Nat) (d : Int) (box line li : Bool) (w : World) (v : Value), RdN w0 n v → Ext w0 w → w0.heap.size ≤ b → One w b (.int .i64 c) 75 → c ≤ 2000 → 0 ≤ d → d ≤ 41 →
  Calls Tryz.prog 74 #[.pointer (some ⟨b, 0, none⟩), v, .agg #[.int .i64 d, .bool box, .bool line, .bool li]] w (Looked b c n.size (n.norm d box line li) w)
def KOk (w0 : World) (n : PN) : Prop := ∀ (b c : Nat) (d : Int) (box line li : Bool) (w : World) (v : Value), RdN w0 n v → Ext w0 w → w0.heap.size ≤ b → One w b (.int .i64 c) 75 → c ≤ 2000 → 0 ≤ d → d ≤ 41 →
  Calls Tryz.prog 35 #[.pointer (some ⟨b, 0, none⟩), v, .agg #[.int .i64 d, .bool box, .bool line, .bool li]] w (Looked b c (PN.sizes n.kids) (PN.norms d box line li false n.kids) w)
def prevT (l : List PN) : Nat → Bool
  | 0 => false
  | k + 1 => (l[k]?).any fun x => x.tag == 0
theorem norms_at (d : Int) (box line li : Bool) {l : List PN} {k : Nat} {x : PN} (h : l[k]? = some x) : PN.norms d box line li (prevT l k) (l.drop k) = (!(prevT l k && x.tag == 0) && x.norm d box line li && PN.norms d box line li (prevT l (k + 1)) (l.drop (k + 1))) := by
  obtain ⟨hk, e⟩ := List.getElem?_eq_some_iff.1 h
  have h1 : l.drop k = x :: l.drop (k + 1) := by rw [← e]; exact List.drop_eq_getElem_cons hk
  have h2 : prevT l (k + 1) = (x.tag == 0) := by simp [prevT, h]
  rw [h1, h2]; rfl
theorem kids_of {w0 : World} {n : PN} (ih : ∀ k ∈ n.kids, NOk w0 k) : KOk w0 n := by
  intro b c d box line li w v hr hx hb ho hc hd hd2
  obtain ⟨av, kv, rfl, ha, hk⟩ := hr.open
  obtain ⟨ao, ac, rfl, _⟩ := ha.len_of
  obtain ⟨ka, kc, rfl, hk1, hk2, hk3, hk4⟩ := hk
  have hbl := ho.lt
  have x1 := ((Ext.refl w).alloc (.cells #[.int .i64 n.tag, .slice ao n.attrs.length ac, .string n.text, .slice ka n.kids.length kc] 26))
  have bb := heap_alloc_new w (.cells #[.int .i64 n.tag, .slice ao n.attrs.length ac, .string n.text, .slice ka n.kids.length kc] 26)
  obtain ⟨ok, hok⟩ : ∃ ok, PN.norms d box line li false n.kids = ok := ⟨_, rfl⟩
  rw [hok]
  have HOK := qh hok
  have HK3 := qh hk3
  have HK4 := qh hk4
  have HIH := qh ih
  have HX := qh hx
  have HONE := qh ho
  have HNB := qh hb
  unfold maxLen at hk2
  clear hok hk3 hk4 ih hx ho hr ha hb
  go_enter Tryz.func35, Tryz.ntmps35
  go_upto_region 1 with fail
  obtain ⟨w1, hw1⟩ : ∃ w1 : World, w1 = w.alloc (.cells #[.int .i64 n.tag, .slice ao n.attrs.length ac, .string n.text, .slice ka n.kids.length kc] 26) := ⟨_, rfl⟩
  have hsz : w1.heap.size = w.heap.size + 1 := by rw [hw1]; simp
  rw [← hw1] at x1 bb ⊢
  clear hw1
  have x2 := x1.alloc (.cells #[.int .i64 d, .bool box, .bool line, .bool li] 78)
  have b2 := ((Ext.refl w1).alloc (.cells #[.int .i64 d, .bool box, .bool line, .bool li] 78)).block bb
  have a2 := heap_alloc_new w1 (.cells #[.int .i64 d, .bool box, .bool line, .bool li] 78)
  rw [hsz] at a2
  obtain ⟨w2, hw2⟩ : ∃ w2 : World, w2 = w1.alloc (.cells #[.int .i64 d, .bool box, .bool line, .bool li] 78) := ⟨_, rfl⟩
  rw [← hw2] at x2 b2 a2 ⊢
  clear hw2 hsz x1 bb
  have n3 := cellOf b2 (i := 3) (v := .slice ka n.kids.length kc) rfl
  have B2 := qh b2
  have A2 := qh a2
  have X2 := qh x2
  clear b2 a2 x2
  go_wp2_with fail
  clear n3
  have fin : ∀ (q : Bool) (u : World) (c' : Nat), (ok && decide (c + PN.sizes n.kids ≤ 2000)) = q → ExtB b w2 u → One u b (.int .i64 c') 75 → (q = true → c' = c + PN.sizes n.kids) → Looked b c (PN.sizes n.kids) ok w (.returned (.bool q)) u := by
    intro q u c' h1 h2 h3 h4
    exact ⟨c', by rw [h1], (X2.out.toB b).trans h2, h3, by rw [h1]; exact h4⟩
  have FIN := qh fin
  clear fin
  go_loopw [7, 8, 12] (fun _ _ i wr => ∃ k ck : Nat, k ≤ n.kids.length ∧ i = .int .i64 k ∧ ExtB b w2 wr ∧ One wr b (.int .i64 ck) 75 ∧ ck = c + PN.sizes (n.kids.take k) ∧ ck ≤ 2000 ∧ PN.norms d box line li (prevT n.kids k) (n.kids.drop k) = ok) (fun _ _ i _ => n.kids.length - (intOf i).toNat)
  case atStart => exact ⟨0, c, Nat.zero_le _, rfl, ExtB.refl _ _, HONE.out.ext X2.out, by simp [PN.sizes], hc, HOK.out⟩
  case round =>
    obtain ⟨k, ck, hk, rfl, xr, hone, hck, hck2, hn⟩ := hrel
    have XR := qh xr
    have HN := qh hn
    have HCK := qh hck
    have HONR := qh hone
    clear hn hck
    by_cases hlt : k < n.kids.length
    · obtain ⟨x, hx⟩ : ∃ x, n.kids[k]? = some x := ⟨n.kids[k], by simp [hlt]⟩
      cases ka with
      | none => exact absurd (HK3.out rfl).1 (by omega)
      | some a =>
        obtain ⟨bk, off, sp⟩ := a
        obtain ⟨c0', c1', c2', c3', q0, q1, q2, q3, hrd⟩ := HK4.out _ rfl k x hx
        obtain ⟨y1, y2, y3, y4, en⟩ := hrd.shape
        cases en
        have hxx : Ext w0 wr := xr.ext (HX.out.trans X2.out) HNB.out
        replace q0 := hxx.cells _ _ q0
        replace q1 := hxx.cells _ _ q1
        replace q2 := hxx.cells _ _ q2
        replace q3 := hxx.cells _ _ q3
        rw [add_later _ _ _ (by decide)] at q1 q2 q3
        have n3 := cellOf (xr.heap B2.out (by omega)) (i := 3) (v := .slice (some ⟨bk, off, sp⟩) n.kids.length kc) rfl
        have HXX := qh hxx
        have HRD := qh hrd
        have KX := qh hx
        clear hxx hrd hx xr hone
        go_upto_region 4 with fail --KIDS
        obtain ⟨wz, hwz⟩ : ∃ wz : World, wz = wr.alloc (.cells #[.int .i64 x.tag, .slice y1 x.attrs.length y2, .string x.text, .slice y3 x.kids.length y4] 26) := ⟨_, rfl⟩
        have xz : Ext wr wz := by rw [hwz]; exact (Ext.refl wr).alloc _
        have bz : wz.heap[wr.heap.size]? = some (.cells #[.int .i64 x.tag, .slice y1 x.attrs.length y2, .string x.text, .slice y3 x.kids.length y4] 26 (0, 0)) := by rw [hwz]; exact heap_alloc_new wr _
        rw [← hwz]
        clear hwz q1 q2 q3
        have XZ := qh (XR.out.trans (xz.toB b))
        have m0 := cellOf bz (i := 0) (v := .int .i64 x.tag) rfl
        have m1 := cellOf bz (i := 1) (v := .slice y1 x.attrs.length y2) rfl
        have m2 := cellOf bz (i := 2) (v := .string x.text) rfl
        have m3 := cellOf bz (i := 3) (v := .slice y3 x.kids.length y4) rfl
        have az := XZ.out.heap A2.out (show w.heap.size + 1 ≠ b by omega)
        have v0 := cellOf az (i := 0) (v := .int .i64 d) rfl
        have v1 := cellOf az (i := 1) (v := .bool box) rfl
        have v2 := cellOf az (i := 2) (v := .bool line) rfl
        have v3 := cellOf az (i := 3) (v := .bool li) rfl
        replace n3 := xz.cell n3
        have HCALL := qh (HIH.out x (List.mem_of_getElem? KX.out) b ck d box line li wz _ HRD.out (HXX.out.trans xz) HNB.out (HONR.out.ext xz) hck2 hd hd2)
        have htk : PN.sizes (n.kids.take (k + 1)) = PN.sizes (n.kids.take k) + x.size := by
          obtain ⟨hlt', hxe⟩ := List.getElem?_eq_some_iff.1 KX.out
          rw [List.take_succ_eq_append_getElem hlt', hxe, sizes_append]; simp [PN.sizes]
        have hall : PN.sizes (n.kids.take k) + x.size ≤ PN.sizes n.kids := sizes_take_succ KX.out
        have got : (prevT n.kids k && x.tag == 0) = false → (x.norm d box line li && decide (ck + x.size ≤ 2000)) = true → ck + x.size = c + PN.sizes (n.kids.take (k + 1)) ∧ ck + x.size ≤ 2000 ∧ PN.norms d box line li (prevT n.kids (k + 1)) (n.kids.drop (k + 1)) = ok := by
          intro h1 h2
          simp only [Bool.and_eq_true, decide_eq_true_eq] at h2
          have := HN.out
          rw [norms_at d box line li KX.out, h1, h2.1] at this
          have e := HCK.out
          exact ⟨by omega, h2.2, by simpa using this⟩
        have bad : (prevT n.kids k && x.tag == 0) = true ∨ (x.norm d box line li && decide (ck + x.size ≤ 2000)) = false → (ok && decide (c + PN.sizes n.kids ≤ 2000)) = false := by
          intro h
          have h3 := HN.out
          rw [norms_at d box line li KX.out] at h3
          rcases h with h | h
          · rw [h] at h3; rw [← h3]; simp
          · cases hx1 : x.norm d box line li
            · rw [hx1] at h3; rw [← h3]; simp
            · rw [hx1] at h
              have h5 : ¬ ck + x.size ≤ 2000 := by simpa using h
              have e := HCK.out
              rw [decide_eq_false (by omega)]; simp
        have ONZ := qh (HONR.out.ext xz)
        have GOT := qh got
        have BAD := qh bad
        clear got bad bz az xz htk hall
        by_cases hk0 : k = 0
        · have hpt : (prevT n.kids k && x.tag == 0) = false := by rw [hk0]; rfl
          have g0 : ¬ (0 : Int) < (k : Int) := by omega
          clear hk0
          have hr1 : (x.norm d box line li && decide (ck + x.size ≤ 2000)) = true ∨ (x.norm d box line li && decide (ck + x.size ≤ 2000)) = false := by cases (x.norm d box line li && decide (ck + x.size ≤ 2000)); exact .inr rfl; exact .inl rfl
          rcases hr1 with hr1 | hr1
          · go_wp2_with (go_at_call 74; refine HCALL.out.mono ?_)
            rintro e w4 ⟨c4, rfl, x4, o4, h4⟩
            rw [hr1]
            have R4 := qh (h4 hr1)
            have X4 := qh (XZ.out.trans x4)
            have O4 := qh o4
            have GT := qh (GOT.out hpt hr1)
            clear x4 o4 h4 m0 m1 m2 m3 v0 v1 v2 v3 n3 hr1
            go_wp2_with fail
            go_roundw
            case rel => exact ⟨k + 1, c4, by omega, by go_num, X4.out, O4.out, by rw [R4.out]; exact GT.out.1, by rw [R4.out]; exact GT.out.2.1, GT.out.2.2⟩
            case measure => simp [intOf]; omega
          · go_wp2_with (go_at_call 74; refine HCALL.out.mono ?_)
            rintro e w4 ⟨c4, rfl, x4, o4, h4⟩
            rw [hr1]
            have X4 := qh (XZ.out.trans x4)
            have O4 := qh o4
            have BD := qh (BAD.out (.inr hr1))
            clear x4 o4 h4 m0 m1 m2 m3 v0 v1 v2 v3 n3 hr1
            go_wp2_with fail
            go_ret
            exact FIN.out _ _ _ BD.out X4.out O4.out (fun h => by cases h)
        · have g0 : (0 : Int) < (k : Int) := by omega
          rcases tagB x.tag with ht | ht
          · have hwr : IntKind.i64.wrap ((k : Int) - 1) = ((k - 1 : Nat) : Int) := by rw [IntWalk.i64_left, IntWalk.wrap64_in _ (by omega)]; omega
            obtain ⟨p, hp⟩ : ∃ p, n.kids[k - 1]? = some p := ⟨_, List.getElem?_eq_getElem (show k - 1 < n.kids.length by omega)⟩
            obtain ⟨d0', d1', d2', d3', r0, _, _, _, hrp⟩ := HK4.out _ rfl (k - 1) p hp
            obtain ⟨z1, z2, z3, z4, en⟩ := hrp.shape
            cases en
            replace r0 := (XZ.out.ext (HX.out.trans X2.out) HNB.out).cells _ _ r0
            have hpt0 : prevT n.kids k = (p.tag == 0) := by
              obtain ⟨j, rfl⟩ : ∃ j, k = j + 1 := ⟨k - 1, by omega⟩
              simp only [Nat.add_sub_cancel] at hp
              simp [prevT, hp]
            have b0 : (0 : Int) ≤ ((k - 1 : Nat) : Int) := by omega
            have b1 : ((k - 1 : Nat) : Int) < (n.kids.length : Int) := by omega
            generalize k - 1 = j at *
            clear hp hrp
            rcases tagB p.tag with hq | hq
            · have hpt : (prevT n.kids k && x.tag == 0) = true := by rw [hpt0, hq, ht]; rfl
              have BD := qh (BAD.out (.inl hpt))
              have OZ := qh (HONR.out)
              clear hk0 hpt hpt0
              go_wp2_with fail
              go_ret
              exact FIN.out _ _ _ BD.out XZ.out ONZ.out (fun h => by cases h)
            · have hpt : (prevT n.kids k && x.tag == 0) = false := by rw [hpt0, hq]; rfl
              clear hk0 hpt0
              have hr1 : (x.norm d box line li && decide (ck + x.size ≤ 2000)) = true ∨ (x.norm d box line li && decide (ck + x.size ≤ 2000)) = false := by cases (x.norm d box line li && decide (ck + x.size ≤ 2000)); exact .inr rfl; exact .inl rfl
              rcases hr1 with hr1 | hr1
              · go_wp2_with (go_at_call 74; refine HCALL.out.mono ?_)
                rintro e w4 ⟨c4, rfl, x4, o4, h4⟩
                rw [hr1]
                have R4 := qh (h4 hr1)
                have X4 := qh (XZ.out.trans x4)
                have O4 := qh o4
                have GT := qh (GOT.out hpt hr1)
                clear x4 o4 h4 m0 m1 m2 m3 v0 v1 v2 v3 n3 hr1
                go_wp2_with fail
                go_roundw
                case rel => exact ⟨k + 1, c4, by omega, by go_num, X4.out, O4.out, by rw [R4.out]; exact GT.out.1, by rw [R4.out]; exact GT.out.2.1, GT.out.2.2⟩
                case measure => simp [intOf]; omega
              · go_wp2_with (go_at_call 74; refine HCALL.out.mono ?_)
                rintro e w4 ⟨c4, rfl, x4, o4, h4⟩
                rw [hr1]
                have X4 := qh (XZ.out.trans x4)
                have O4 := qh o4
                have BD := qh (BAD.out (.inr hr1))
                clear x4 o4 h4 m0 m1 m2 m3 v0 v1 v2 v3 n3 hr1
                go_wp2_with fail
                go_ret
                exact FIN.out _ _ _ BD.out X4.out O4.out (fun h => by cases h)
          · have hpt : (prevT n.kids k && x.tag == 0) = false := by rw [ht]; simp
            clear hk0
            have hr1 : (x.norm d box line li && decide (ck + x.size ≤ 2000)) = true ∨ (x.norm d box line li && decide (ck + x.size ≤ 2000)) = false := by cases (x.norm d box line li && decide (ck + x.size ≤ 2000)); exact .inr rfl; exact .inl rfl
            rcases hr1 with hr1 | hr1
            · go_wp2_with (go_at_call 74; refine HCALL.out.mono ?_)
              rintro e w4 ⟨c4, rfl, x4, o4, h4⟩
              rw [hr1]
              have R4 := qh (h4 hr1)
              have X4 := qh (XZ.out.trans x4)
              have O4 := qh o4
              have GT := qh (GOT.out hpt hr1)
              clear x4 o4 h4 m0 m1 m2 m3 v0 v1 v2 v3 n3 hr1
              go_wp2_with fail
              go_roundw
              case rel => exact ⟨k + 1, c4, by omega, by go_num, X4.out, O4.out, by rw [R4.out]; exact GT.out.1, by rw [R4.out]; exact GT.out.2.1, GT.out.2.2⟩
              case measure => simp [intOf]; omega
            · go_wp2_with (go_at_call 74; refine HCALL.out.mono ?_)
              rintro e w4 ⟨c4, rfl, x4, o4, h4⟩
              rw [hr1]
              have X4 := qh (XZ.out.trans x4)
              have O4 := qh o4
              have BD := qh (BAD.out (.inr hr1))
              clear x4 o4 h4 m0 m1 m2 m3 v0 v1 v2 v3 n3 hr1
              go_wp2_with fail
              go_ret
              exact FIN.out _ _ _ BD.out X4.out O4.out (fun h => by cases h)
    · obtain rfl : k = n.kids.length := by omega
      have hn := HN.out
      rw [List.drop_length] at hn
      have hck := HCK.out
      rw [List.take_length] at hck
      have hz : (ok && decide (c + PN.sizes n.kids ≤ 2000)) = true := by rw [← hn, decide_eq_true (by omega)]; rfl
      have HZ := qh hz
      have CK := qh hck
      clear hn hck hz xr hone
      go_wp2_with fail
      go_ret
      exact FIN.out _ _ _ HZ.out XR.out HONR.out (fun _ => CK.out)
theorem text_none {s : ByteArray} (h : s.size = 0) : (s.toList == ([] : List UInt8)) = true := by rw [ByteArray.toList_eq, show s.data.toList = [] from List.eq_nil_of_length_eq_zero h]; rfl
theorem text_some {s : ByteArray} (h : ¬ s.size = 0) : (s.toList == ([] : List UInt8)) = false := by
  rw [ByteArray.toList_eq]
  cases hd : s.data.toList with
  | nil => exact absurd (show s.size = 0 by show s.data.toList.length = 0; rw [hd]; rfl) h
  | cons a l => rfl
theorem clsT_range (t : Int) : clsT t = 0 ∨ clsT t = 1 ∨ clsT t = 2 ∨ clsT t = 3 ∨ clsT t = 4 ∨ clsT t = 5 := by
  unfold clsT
  repeat' split
  all_goals simp
theorem cls_two {t : Int} (h : clsT t = 2) : t ≠ 9 := by rintro rfl; exact absurd h (by decide)
theorem cls_three {t : Int} (h : clsT t = 3) : t ≠ 7 ∧ t ≠ 8 := ⟨by rintro rfl; exact absurd h (by decide), by rintro rfl; exact absurd h (by decide)⟩
theorem textOk_kids {box : Bool} {n : PN} (h : textOk box n = true) : n.kids = [] := by
  unfold textOk at h
  simp only [Bool.and_eq_true] at h
  exact List.isEmpty_iff.1 h.1.1.1.2
theorem lnode_0 {w0 : World} {n : PN} (hcls : clsT n.tag = 0) (hT : Tabs w0) (hkids : KOk w0 n) (htx : n.text.size ≤ 100000) (hal : n.attrs.length ≤ 100000000000000) : NOk w0 n := by
  intro b c d box line li w v hr hx hb ho hc hd hd2
  obtain ⟨av, kv, rfl, ha, hk⟩ := hr.open
  obtain ⟨ao, ac, rfl, _⟩ := ha.len_of
  obtain ⟨ka, kc, rfl, hk1, hk2, hk3, hk4⟩ := hk
  clear hk1 hk2 hk3 hk4
  have hbl := ho.lt
  have hws := hx.size
  have x1 := ((Ext.refl w).alloc (.cells #[.int .i64 n.tag, .slice ao n.attrs.length ac, .string n.text, .slice ka n.kids.length kc] 26))
  have bb := heap_alloc_new w (.cells #[.int .i64 n.tag, .slice ao n.attrs.length ac, .string n.text, .slice ka n.kids.length kc] 26)
  have fin : ∀ (q : Bool) (u : World) (c' : Nat), (n.norm d box line li && decide (c + n.size ≤ 2000)) = q → ExtB b w u → One u b (.int .i64 c') 75 → (q = true → c' = c + n.size) → Looked b c n.size (n.norm d box line li) w (.returned (.bool q)) u := by
    intro q u c' h1 h2 h3 h4
    exact ⟨c', by rw [h1], h2, h3, by rw [h1]; exact h4⟩
  have FIN := qh fin
  have HT := qh hT
  have HR := qh hr
  have HA0 := qh ha
  have HAL := qh hal
  have HTXT := qh htx
  have HX := qh hx
  have HNBB := qh hb
  have HKIDS := qh hkids
  have HSZ := qh n.size_eq
  have HO := qh ho
  clear fin hT hr ha hal htx hx hb hkids ho
  go_enter Tryz.func74, Tryz.ntmps74
  go_upto_region 1 with fail
  obtain ⟨w1, hw1⟩ : ∃ w1 : World, w1 = w.alloc (.cells #[.int .i64 n.tag, .slice ao n.attrs.length ac, .string n.text, .slice ka n.kids.length kc] 26) := ⟨_, rfl⟩
  have hsz : w1.heap.size = w.heap.size + 1 := by rw [hw1]; simp
  rw [← hw1] at x1 bb ⊢
  clear hw1
  have x2 := x1.alloc (.cells #[.int .i64 d, .bool box, .bool line, .bool li] 78)
  have b2 := ((Ext.refl w1).alloc (.cells #[.int .i64 d, .bool box, .bool line, .bool li] 78)).block bb
  have a2 := heap_alloc_new w1 (.cells #[.int .i64 d, .bool box, .bool line, .bool li] 78)
  rw [hsz] at a2
  obtain ⟨w2, hw2⟩ : ∃ w2 : World, w2 = w1.alloc (.cells #[.int .i64 d, .bool box, .bool line, .bool li] 78) := ⟨_, rfl⟩
  have hs2 : w.heap.size + 2 = w2.heap.size := by rw [hw2]; simp [hsz]
  have HS2 := qh hs2
  rw [← hw2] at x2 b2 a2 ⊢
  clear hw2 hsz x1 bb hs2
  have o2 := HO.out.ext x2
  have oc := o2.cell
  have of := o2.free
  have hwr : IntKind.i64.wrap ((c : Int) + 1) = ((c + 1 : Nat) : Int) := by rw [IntWalk.i64_left, IntWalk.wrap64_in _ (by omega)]; omega
  have B2 := qh b2
  have A2 := qh a2
  have X2 := qh x2
  have O2 := qh o2
  clear b2 a2 x2 o2
  go_upto_region 2 with fail
  obtain ⟨w3, hw3⟩ : ∃ w3 : World, w3 = w2.setCell ⟨b, 0, none⟩ (.int .i64 ((c : Int) + 1)) := ⟨_, rfl⟩
  have o3 : One w3 b (.int .i64 ((c : Int) + 1)) 75 := by rw [hw3]; exact O2.out.set _
  have nb3 : w3.heap[w.heap.size]? = some (.cells #[.int .i64 n.tag, .slice ao n.attrs.length ac, .string n.text, .slice ka n.kids.length kc] 26 (0, 0)) := by rw [hw3]; exact (heap_setCell_other (p := ⟨b, 0, none⟩) _ (by show w.heap.size ≠ b; omega)).trans B2.out
  have ab3 : w3.heap[w.heap.size + 1]? = some (.cells #[.int .i64 d, .bool box, .bool line, .bool li] 78 (0, 0)) := by rw [hw3]; exact (heap_setCell_other (p := ⟨b, 0, none⟩) _ (by show w.heap.size + 1 ≠ b; omega)).trans A2.out
  have x3 : ExtB b w w3 := by rw [hw3]; exact (X2.out.toB b).setCell (p := ⟨b, 0, none⟩) (.inl rfl) _
  have hs3 : w3.heap.size = w.heap.size + 2 := by rw [hw3]; simp [World.setCell]; exact HS2.out.symm
  rw [← hw3]
  clear hw3 oc of hwr
  have oc := o3.cell
  have n0 := cellOf nb3 (i := 0) (v := .int .i64 n.tag) rfl
  have v0 := cellOf ab3 (i := 0) (v := .int .i64 d) rfl
  have O3 := qh (show One w3 b (.int .i64 ((c + 1 : Nat) : Int)) 75 from by rw [show ((c + 1 : Nat) : Int) = (c : Int) + 1 by omega]; exact o3)
  have X3 := qh x3
  have NB3 := qh nb3
  have AB3 := qh ab3
  have HS3 := qh hs3
  clear o3 x3 nb3 ab3 hs3
  by_cases hc1 : c + 1 ≤ 2000
  case neg =>
    have hc2 : (2000 : Int) < (c : Int) + 1 := by omega
    have hz : (n.norm d box line li && decide (c + n.size ≤ 2000)) = false := by
      have := n.size_pos
      rw [decide_eq_false (by omega)]; simp
    have HZ := qh hz
    clear hc1 hz
    go_wp2_with fail
    go_ret
    exact FIN.out _ _ _ HZ.out X3.out O3.out (fun h => by cases h)
  have hc2 : ¬ (2000 : Int) < (c : Int) + 1 := by omega
  have HC1 := qh hc1
  clear hc1
  by_cases hd3 : 40 < d
  · have hz : (n.norm d box line li && decide (c + n.size ≤ 2000)) = false := by
      rw [PN.norm_eq, decide_eq_false (by omega)]; simp
    have HZ := qh hz
    clear hz
    go_wp2_with fail
    go_ret
    exact FIN.out _ _ _ HZ.out X3.out O3.out (fun h => by cases h)
  have hd4 : d ≤ 40 := by omega
  have HD4 := qh (show decide (d ≤ 40) = true from decide_eq_true hd4)
  have hcl := Class_any w3 n.tag
  rw [hcls] at hcl
  have HCLS := qh hcl
  have HCL := qh hcls
  clear hcl hcls
  have hdw : IntKind.i64.wrap (d + 1) = d + 1 := by rw [IntWalk.i64_left, IntWalk.wrap64_in _ (by omega)]
  go_upto_region 6 with (refine HCLS.out.mono ?_; rintro e w4 ⟨rfl, x4⟩; clear v0; have ab4 := x4.block AB3.out; have v0 := cellOf ab4 (i := 0) (v := .int .i64 d) rfl; have v1 := cellOf ab4 (i := 1) (v := .bool box) rfl; have v2 := cellOf ab4 (i := 2) (v := .bool line) rfl; have v3 := cellOf ab4 (i := 3) (v := .bool li) rfl; have O4 := qh (O3.out.ext x4); have X4 := qh (X3.out.trans (x4.toB b)); have NB4 := qh (x4.block NB3.out); have AB4 := qh ab4; have HS4 := qh (Nat.le_trans (Nat.le_of_eq HS3.out.symm) x4.size); clear x4 ab4 n0)
  clear v0 v1 v2 v3
  obtain ⟨bi, hbi⟩ : ∃ bi, w4.heap.size = bi := ⟨_, rfl⟩
  obtain ⟨wI, hwI⟩ : ∃ wI : World, wI = w4.alloc (.cells #[.int .i64 (d + 1), .bool false, .bool line, .bool li] 78) := ⟨_, rfl⟩
  have xI : Ext w4 wI := by rw [hwI]; exact (Ext.refl w4).alloc _
  have ib0 : wI.heap[bi]? = some (.cells #[.int .i64 (d + 1), .bool false, .bool line, .bool li] 78 (0, 0)) := by rw [← hbi, hwI]; exact heap_alloc_new w4 _
  rw [← hwI, hbi]
  clear hwI
  have HBI := qh (show w.heap.size ≠ bi ∧ b ≠ bi ∧ w.heap.size ≤ bi by have := HS4.out; omega)
  have NBI := qh (xI.block NB4.out)
  have ABI := qh (xI.block AB4.out)
  have ONI := qh (O4.out.ext xI)
  have XI := qh (X4.out.trans (xI.toB b))
  have IB0 := qh ib0
  have n0 := cellOf NBI.out (i := 0) (v := .int .i64 n.tag) rfl
  have n1 := cellOf NBI.out (i := 1) (v := .slice ao n.attrs.length ac) rfl
  have n2 := cellOf NBI.out (i := 2) (v := .string n.text) rfl
  have n3 := cellOf NBI.out (i := 3) (v := .slice ka n.kids.length kc) rfl
  have v0 := cellOf ABI.out (i := 0) (v := .int .i64 d) rfl
  have v1 := cellOf ABI.out (i := 1) (v := .bool box) rfl
  have v2 := cellOf ABI.out (i := 2) (v := .bool line) rfl
  have v3 := cellOf ABI.out (i := 3) (v := .bool li) rfl
  clear xI ib0 hbi hdw HCLS
  have HZ := qh (show (n.norm d box line li && decide (c + n.size ≤ 2000)) = false from by rw [PN.norm_eq, HCL.out]; simp)
  go_wp2_with fail
  go_ret
  exact FIN.out _ _ _ HZ.out XI.out ONI.out (fun h => by cases h)
theorem lnode_1 {w0 : World} {n : PN} (hcls : clsT n.tag = 1) (hT : Tabs w0) (hkids : KOk w0 n) (htx : n.text.size ≤ 100000) (hal : n.attrs.length ≤ 100000000000000) : NOk w0 n := by
  intro b c d box line li w v hr hx hb ho hc hd hd2
  obtain ⟨av, kv, rfl, ha, hk⟩ := hr.open
  obtain ⟨ao, ac, rfl, _⟩ := ha.len_of
  obtain ⟨ka, kc, rfl, hk1, hk2, hk3, hk4⟩ := hk
  clear hk1 hk2 hk3 hk4
  have hbl := ho.lt
  have hws := hx.size
  have x1 := ((Ext.refl w).alloc (.cells #[.int .i64 n.tag, .slice ao n.attrs.length ac, .string n.text, .slice ka n.kids.length kc] 26))
  have bb := heap_alloc_new w (.cells #[.int .i64 n.tag, .slice ao n.attrs.length ac, .string n.text, .slice ka n.kids.length kc] 26)
  have fin : ∀ (q : Bool) (u : World) (c' : Nat), (n.norm d box line li && decide (c + n.size ≤ 2000)) = q → ExtB b w u → One u b (.int .i64 c') 75 → (q = true → c' = c + n.size) → Looked b c n.size (n.norm d box line li) w (.returned (.bool q)) u := by
    intro q u c' h1 h2 h3 h4
    exact ⟨c', by rw [h1], h2, h3, by rw [h1]; exact h4⟩
  have FIN := qh fin
  have HT := qh hT
  have HR := qh hr
  have HA0 := qh ha
  have HAL := qh hal
  have HTXT := qh htx
  have HX := qh hx
  have HNBB := qh hb
  have HKIDS := qh hkids
  have HSZ := qh n.size_eq
  have HO := qh ho
  clear fin hT hr ha hal htx hx hb hkids ho
  go_enter Tryz.func74, Tryz.ntmps74
  go_upto_region 1 with fail
  obtain ⟨w1, hw1⟩ : ∃ w1 : World, w1 = w.alloc (.cells #[.int .i64 n.tag, .slice ao n.attrs.length ac, .string n.text, .slice ka n.kids.length kc] 26) := ⟨_, rfl⟩
  have hsz : w1.heap.size = w.heap.size + 1 := by rw [hw1]; simp
  rw [← hw1] at x1 bb ⊢
  clear hw1
  have x2 := x1.alloc (.cells #[.int .i64 d, .bool box, .bool line, .bool li] 78)
  have b2 := ((Ext.refl w1).alloc (.cells #[.int .i64 d, .bool box, .bool line, .bool li] 78)).block bb
  have a2 := heap_alloc_new w1 (.cells #[.int .i64 d, .bool box, .bool line, .bool li] 78)
  rw [hsz] at a2
  obtain ⟨w2, hw2⟩ : ∃ w2 : World, w2 = w1.alloc (.cells #[.int .i64 d, .bool box, .bool line, .bool li] 78) := ⟨_, rfl⟩
  have hs2 : w.heap.size + 2 = w2.heap.size := by rw [hw2]; simp [hsz]
  have HS2 := qh hs2
  rw [← hw2] at x2 b2 a2 ⊢
  clear hw2 hsz x1 bb hs2
  have o2 := HO.out.ext x2
  have oc := o2.cell
  have of := o2.free
  have hwr : IntKind.i64.wrap ((c : Int) + 1) = ((c + 1 : Nat) : Int) := by rw [IntWalk.i64_left, IntWalk.wrap64_in _ (by omega)]; omega
  have B2 := qh b2
  have A2 := qh a2
  have X2 := qh x2
  have O2 := qh o2
  clear b2 a2 x2 o2
  go_upto_region 2 with fail
  obtain ⟨w3, hw3⟩ : ∃ w3 : World, w3 = w2.setCell ⟨b, 0, none⟩ (.int .i64 ((c : Int) + 1)) := ⟨_, rfl⟩
  have o3 : One w3 b (.int .i64 ((c : Int) + 1)) 75 := by rw [hw3]; exact O2.out.set _
  have nb3 : w3.heap[w.heap.size]? = some (.cells #[.int .i64 n.tag, .slice ao n.attrs.length ac, .string n.text, .slice ka n.kids.length kc] 26 (0, 0)) := by rw [hw3]; exact (heap_setCell_other (p := ⟨b, 0, none⟩) _ (by show w.heap.size ≠ b; omega)).trans B2.out
  have ab3 : w3.heap[w.heap.size + 1]? = some (.cells #[.int .i64 d, .bool box, .bool line, .bool li] 78 (0, 0)) := by rw [hw3]; exact (heap_setCell_other (p := ⟨b, 0, none⟩) _ (by show w.heap.size + 1 ≠ b; omega)).trans A2.out
  have x3 : ExtB b w w3 := by rw [hw3]; exact (X2.out.toB b).setCell (p := ⟨b, 0, none⟩) (.inl rfl) _
  have hs3 : w3.heap.size = w.heap.size + 2 := by rw [hw3]; simp [World.setCell]; exact HS2.out.symm
  rw [← hw3]
  clear hw3 oc of hwr
  have oc := o3.cell
  have n0 := cellOf nb3 (i := 0) (v := .int .i64 n.tag) rfl
  have v0 := cellOf ab3 (i := 0) (v := .int .i64 d) rfl
  have O3 := qh (show One w3 b (.int .i64 ((c + 1 : Nat) : Int)) 75 from by rw [show ((c + 1 : Nat) : Int) = (c : Int) + 1 by omega]; exact o3)
  have X3 := qh x3
  have NB3 := qh nb3
  have AB3 := qh ab3
  have HS3 := qh hs3
  clear o3 x3 nb3 ab3 hs3
  by_cases hc1 : c + 1 ≤ 2000
  case neg =>
    have hc2 : (2000 : Int) < (c : Int) + 1 := by omega
    have hz : (n.norm d box line li && decide (c + n.size ≤ 2000)) = false := by
      have := n.size_pos
      rw [decide_eq_false (by omega)]; simp
    have HZ := qh hz
    clear hc1 hz
    go_wp2_with fail
    go_ret
    exact FIN.out _ _ _ HZ.out X3.out O3.out (fun h => by cases h)
  have hc2 : ¬ (2000 : Int) < (c : Int) + 1 := by omega
  have HC1 := qh hc1
  clear hc1
  by_cases hd3 : 40 < d
  · have hz : (n.norm d box line li && decide (c + n.size ≤ 2000)) = false := by
      rw [PN.norm_eq, decide_eq_false (by omega)]; simp
    have HZ := qh hz
    clear hz
    go_wp2_with fail
    go_ret
    exact FIN.out _ _ _ HZ.out X3.out O3.out (fun h => by cases h)
  have hd4 : d ≤ 40 := by omega
  have HD4 := qh (show decide (d ≤ 40) = true from decide_eq_true hd4)
  have hcl := Class_any w3 n.tag
  rw [hcls] at hcl
  have HCLS := qh hcl
  have HCL := qh hcls
  clear hcl hcls
  have hdw : IntKind.i64.wrap (d + 1) = d + 1 := by rw [IntWalk.i64_left, IntWalk.wrap64_in _ (by omega)]
  go_upto_region 6 with (refine HCLS.out.mono ?_; rintro e w4 ⟨rfl, x4⟩; clear v0; have ab4 := x4.block AB3.out; have v0 := cellOf ab4 (i := 0) (v := .int .i64 d) rfl; have v1 := cellOf ab4 (i := 1) (v := .bool box) rfl; have v2 := cellOf ab4 (i := 2) (v := .bool line) rfl; have v3 := cellOf ab4 (i := 3) (v := .bool li) rfl; have O4 := qh (O3.out.ext x4); have X4 := qh (X3.out.trans (x4.toB b)); have NB4 := qh (x4.block NB3.out); have AB4 := qh ab4; have HS4 := qh (Nat.le_trans (Nat.le_of_eq HS3.out.symm) x4.size); clear x4 ab4 n0)
  clear v0 v1 v2 v3
  obtain ⟨bi, hbi⟩ : ∃ bi, w4.heap.size = bi := ⟨_, rfl⟩
  obtain ⟨wI, hwI⟩ : ∃ wI : World, wI = w4.alloc (.cells #[.int .i64 (d + 1), .bool false, .bool line, .bool li] 78) := ⟨_, rfl⟩
  have xI : Ext w4 wI := by rw [hwI]; exact (Ext.refl w4).alloc _
  have ib0 : wI.heap[bi]? = some (.cells #[.int .i64 (d + 1), .bool false, .bool line, .bool li] 78 (0, 0)) := by rw [← hbi, hwI]; exact heap_alloc_new w4 _
  rw [← hwI, hbi]
  clear hwI
  have HBI := qh (show w.heap.size ≠ bi ∧ b ≠ bi ∧ w.heap.size ≤ bi by have := HS4.out; omega)
  have NBI := qh (xI.block NB4.out)
  have ABI := qh (xI.block AB4.out)
  have ONI := qh (O4.out.ext xI)
  have XI := qh (X4.out.trans (xI.toB b))
  have IB0 := qh ib0
  have n0 := cellOf NBI.out (i := 0) (v := .int .i64 n.tag) rfl
  have n1 := cellOf NBI.out (i := 1) (v := .slice ao n.attrs.length ac) rfl
  have n2 := cellOf NBI.out (i := 2) (v := .string n.text) rfl
  have n3 := cellOf NBI.out (i := 3) (v := .slice ka n.kids.length kc) rfl
  have v0 := cellOf ABI.out (i := 0) (v := .int .i64 d) rfl
  have v1 := cellOf ABI.out (i := 1) (v := .bool box) rfl
  have v2 := cellOf ABI.out (i := 2) (v := .bool line) rfl
  have v3 := cellOf ABI.out (i := 3) (v := .bool li) rfl
  clear xI ib0 hbi hdw HCLS
  have hq : (n.norm d box line li && decide (c + n.size ≤ 2000)) = textOk box n := by
    rw [PN.norm_eq, HCL.out, HD4.out]
    show (true && textOk box n && decide (c + n.size ≤ 2000)) = textOk box n
    cases ht : textOk box n
    · rfl
    · have hk0 : n.kids = [] := textOk_kids ht
      have h1 := HSZ.out
      have h2 := HC1.out
      rw [hk0] at h1
      simp only [PN.sizes] at h1
      rw [decide_eq_true (by omega)]; rfl
  have hq2 : textOk box n = true → c + 1 = c + n.size := by
    intro ht
    have hk0 : n.kids = [] := textOk_kids ht
    have h1 := HSZ.out
    rw [hk0] at h1
    simp only [PN.sizes] at h1
    omega
  have HQ := qh hq
  have HQ2 := qh hq2
  have HTX := qh (textP_any n _ (.pointer (some ⟨b, 0, none⟩)) d box line li wI (HR.out.cells (XI.out.ext HX.out HNBB.out).cells) HTXT.out)
  clear hq hq2
  go_wp2_with (go_at_call 118; refine HTX.out.mono ?_)
  rintro e w6 ⟨rfl, x6⟩
  have X6 := qh (XI.out.trans (x6.toB b))
  have O6 := qh (ONI.out.ext x6)
  clear x6 n0 n1 n2 n3 v0 v1 v2 v3
  generalize textOk box n = q at *
  go_wp2_with fail
  go_ret
  exact FIN.out q _ (c + 1) HQ.out X6.out O6.out HQ2.out
theorem lnode_5 {w0 : World} {n : PN} (hcls : clsT n.tag = 5) (hT : Tabs w0) (hkids : KOk w0 n) (htx : n.text.size ≤ 100000) (hal : n.attrs.length ≤ 100000000000000) : NOk w0 n := by
  intro b c d box line li w v hr hx hb ho hc hd hd2
  obtain ⟨av, kv, rfl, ha, hk⟩ := hr.open
  obtain ⟨ao, ac, rfl, _⟩ := ha.len_of
  obtain ⟨ka, kc, rfl, hk1, hk2, hk3, hk4⟩ := hk
  clear hk1 hk2 hk3 hk4
  have hbl := ho.lt
  have hws := hx.size
  have x1 := ((Ext.refl w).alloc (.cells #[.int .i64 n.tag, .slice ao n.attrs.length ac, .string n.text, .slice ka n.kids.length kc] 26))
  have bb := heap_alloc_new w (.cells #[.int .i64 n.tag, .slice ao n.attrs.length ac, .string n.text, .slice ka n.kids.length kc] 26)
  have fin : ∀ (q : Bool) (u : World) (c' : Nat), (n.norm d box line li && decide (c + n.size ≤ 2000)) = q → ExtB b w u → One u b (.int .i64 c') 75 → (q = true → c' = c + n.size) → Looked b c n.size (n.norm d box line li) w (.returned (.bool q)) u := by
    intro q u c' h1 h2 h3 h4
    exact ⟨c', by rw [h1], h2, h3, by rw [h1]; exact h4⟩
  have FIN := qh fin
  have HT := qh hT
  have HR := qh hr
  have HA0 := qh ha
  have HAL := qh hal
  have HTXT := qh htx
  have HX := qh hx
  have HNBB := qh hb
  have HKIDS := qh hkids
  have HSZ := qh n.size_eq
  have HO := qh ho
  clear fin hT hr ha hal htx hx hb hkids ho
  go_enter Tryz.func74, Tryz.ntmps74
  go_upto_region 1 with fail
  obtain ⟨w1, hw1⟩ : ∃ w1 : World, w1 = w.alloc (.cells #[.int .i64 n.tag, .slice ao n.attrs.length ac, .string n.text, .slice ka n.kids.length kc] 26) := ⟨_, rfl⟩
  have hsz : w1.heap.size = w.heap.size + 1 := by rw [hw1]; simp
  rw [← hw1] at x1 bb ⊢
  clear hw1
  have x2 := x1.alloc (.cells #[.int .i64 d, .bool box, .bool line, .bool li] 78)
  have b2 := ((Ext.refl w1).alloc (.cells #[.int .i64 d, .bool box, .bool line, .bool li] 78)).block bb
  have a2 := heap_alloc_new w1 (.cells #[.int .i64 d, .bool box, .bool line, .bool li] 78)
  rw [hsz] at a2
  obtain ⟨w2, hw2⟩ : ∃ w2 : World, w2 = w1.alloc (.cells #[.int .i64 d, .bool box, .bool line, .bool li] 78) := ⟨_, rfl⟩
  have hs2 : w.heap.size + 2 = w2.heap.size := by rw [hw2]; simp [hsz]
  have HS2 := qh hs2
  rw [← hw2] at x2 b2 a2 ⊢
  clear hw2 hsz x1 bb hs2
  have o2 := HO.out.ext x2
  have oc := o2.cell
  have of := o2.free
  have hwr : IntKind.i64.wrap ((c : Int) + 1) = ((c + 1 : Nat) : Int) := by rw [IntWalk.i64_left, IntWalk.wrap64_in _ (by omega)]; omega
  have B2 := qh b2
  have A2 := qh a2
  have X2 := qh x2
  have O2 := qh o2
  clear b2 a2 x2 o2
  go_upto_region 2 with fail
  obtain ⟨w3, hw3⟩ : ∃ w3 : World, w3 = w2.setCell ⟨b, 0, none⟩ (.int .i64 ((c : Int) + 1)) := ⟨_, rfl⟩
  have o3 : One w3 b (.int .i64 ((c : Int) + 1)) 75 := by rw [hw3]; exact O2.out.set _
  have nb3 : w3.heap[w.heap.size]? = some (.cells #[.int .i64 n.tag, .slice ao n.attrs.length ac, .string n.text, .slice ka n.kids.length kc] 26 (0, 0)) := by rw [hw3]; exact (heap_setCell_other (p := ⟨b, 0, none⟩) _ (by show w.heap.size ≠ b; omega)).trans B2.out
  have ab3 : w3.heap[w.heap.size + 1]? = some (.cells #[.int .i64 d, .bool box, .bool line, .bool li] 78 (0, 0)) := by rw [hw3]; exact (heap_setCell_other (p := ⟨b, 0, none⟩) _ (by show w.heap.size + 1 ≠ b; omega)).trans A2.out
  have x3 : ExtB b w w3 := by rw [hw3]; exact (X2.out.toB b).setCell (p := ⟨b, 0, none⟩) (.inl rfl) _
  have hs3 : w3.heap.size = w.heap.size + 2 := by rw [hw3]; simp [World.setCell]; exact HS2.out.symm
  rw [← hw3]
  clear hw3 oc of hwr
  have oc := o3.cell
  have n0 := cellOf nb3 (i := 0) (v := .int .i64 n.tag) rfl
  have v0 := cellOf ab3 (i := 0) (v := .int .i64 d) rfl
  have O3 := qh (show One w3 b (.int .i64 ((c + 1 : Nat) : Int)) 75 from by rw [show ((c + 1 : Nat) : Int) = (c : Int) + 1 by omega]; exact o3)
  have X3 := qh x3
  have NB3 := qh nb3
  have AB3 := qh ab3
  have HS3 := qh hs3
  clear o3 x3 nb3 ab3 hs3
  by_cases hc1 : c + 1 ≤ 2000
  case neg =>
    have hc2 : (2000 : Int) < (c : Int) + 1 := by omega
    have hz : (n.norm d box line li && decide (c + n.size ≤ 2000)) = false := by
      have := n.size_pos
      rw [decide_eq_false (by omega)]; simp
    have HZ := qh hz
    clear hc1 hz
    go_wp2_with fail
    go_ret
    exact FIN.out _ _ _ HZ.out X3.out O3.out (fun h => by cases h)
  have hc2 : ¬ (2000 : Int) < (c : Int) + 1 := by omega
  have HC1 := qh hc1
  clear hc1
  by_cases hd3 : 40 < d
  · have hz : (n.norm d box line li && decide (c + n.size ≤ 2000)) = false := by
      rw [PN.norm_eq, decide_eq_false (by omega)]; simp
    have HZ := qh hz
    clear hz
    go_wp2_with fail
    go_ret
    exact FIN.out _ _ _ HZ.out X3.out O3.out (fun h => by cases h)
  have hd4 : d ≤ 40 := by omega
  have HD4 := qh (show decide (d ≤ 40) = true from decide_eq_true hd4)
  have hcl := Class_any w3 n.tag
  rw [hcls] at hcl
  have HCLS := qh hcl
  have HCL := qh hcls
  clear hcl hcls
  have hdw : IntKind.i64.wrap (d + 1) = d + 1 := by rw [IntWalk.i64_left, IntWalk.wrap64_in _ (by omega)]
  go_upto_region 6 with (refine HCLS.out.mono ?_; rintro e w4 ⟨rfl, x4⟩; clear v0; have ab4 := x4.block AB3.out; have v0 := cellOf ab4 (i := 0) (v := .int .i64 d) rfl; have v1 := cellOf ab4 (i := 1) (v := .bool box) rfl; have v2 := cellOf ab4 (i := 2) (v := .bool line) rfl; have v3 := cellOf ab4 (i := 3) (v := .bool li) rfl; have O4 := qh (O3.out.ext x4); have X4 := qh (X3.out.trans (x4.toB b)); have NB4 := qh (x4.block NB3.out); have AB4 := qh ab4; have HS4 := qh (Nat.le_trans (Nat.le_of_eq HS3.out.symm) x4.size); clear x4 ab4 n0)
  clear v0 v1 v2 v3
  obtain ⟨bi, hbi⟩ : ∃ bi, w4.heap.size = bi := ⟨_, rfl⟩
  obtain ⟨wI, hwI⟩ : ∃ wI : World, wI = w4.alloc (.cells #[.int .i64 (d + 1), .bool false, .bool line, .bool li] 78) := ⟨_, rfl⟩
  have xI : Ext w4 wI := by rw [hwI]; exact (Ext.refl w4).alloc _
  have ib0 : wI.heap[bi]? = some (.cells #[.int .i64 (d + 1), .bool false, .bool line, .bool li] 78 (0, 0)) := by rw [← hbi, hwI]; exact heap_alloc_new w4 _
  rw [← hwI, hbi]
  clear hwI
  have HBI := qh (show w.heap.size ≠ bi ∧ b ≠ bi ∧ w.heap.size ≤ bi by have := HS4.out; omega)
  have NBI := qh (xI.block NB4.out)
  have ABI := qh (xI.block AB4.out)
  have ONI := qh (O4.out.ext xI)
  have XI := qh (X4.out.trans (xI.toB b))
  have IB0 := qh ib0
  have n0 := cellOf NBI.out (i := 0) (v := .int .i64 n.tag) rfl
  have n1 := cellOf NBI.out (i := 1) (v := .slice ao n.attrs.length ac) rfl
  have n2 := cellOf NBI.out (i := 2) (v := .string n.text) rfl
  have n3 := cellOf NBI.out (i := 3) (v := .slice ka n.kids.length kc) rfl
  have v0 := cellOf ABI.out (i := 0) (v := .int .i64 d) rfl
  have v1 := cellOf ABI.out (i := 1) (v := .bool box) rfl
  have v2 := cellOf ABI.out (i := 2) (v := .bool line) rfl
  have v3 := cellOf ABI.out (i := 3) (v := .bool li) rfl
  clear xI ib0 hbi hdw HCLS
  by_cases ht : n.text.size = 0
  · have e3 : (n.text.toList == ([] : List UInt8)) = true := text_none ht
    have HTX := qh ht
    have hx0 : Ext w0 wI := XI.out.ext HX.out HNBB.out
    have HA := qh (AMay_any n.attrs _ wI (HA0.out.cells hx0.cells) HAL.out (HT.out.ext hx0))
    clear ht hx0
    have hm : attrsMay n.attrs = true ∨ attrsMay n.attrs = false := by cases attrsMay n.attrs; exact .inr rfl; exact .inl rfl
    rcases hm with hm | hm
    · rw [hm] at HA
      by_cases hk0 : n.kids.length = 0
      · have e4 : ((n.kids.length : Int) == 0) = true := by simpa using hk0
        have hkn : n.kids = [] := List.eq_nil_of_length_eq_zero hk0
        have hsz1 : c + 1 = c + n.size := by rw [HSZ.out, hkn]; simp [PN.sizes]
        have hz : (n.norm d box line li && decide (c + n.size ≤ 2000)) = true := by
          have := HC1.out
          rw [PN.norm_eq, HCL.out, HD4.out, decide_eq_true (by omega), hkn, hm, HTX.out]; rfl
        have HZ := qh hz
        have HS1 := qh hsz1
        clear hz hm hk0 hkn hsz1
        go_wp2_with (go_at_call 119; refine HA.out.mono ?_)
        rintro e w6 ⟨rfl, x6⟩
        have n3 := x6.cell n3
        have X6 := qh (XI.out.trans (x6.toB b))
        have O6 := qh (ONI.out.ext x6)
        clear x6 n0 n1 n2
        go_wp2_with fail
        go_ret
        exact FIN.out _ _ _ HZ.out X6.out O6.out (fun _ => HS1.out)
      · have e4 : ((n.kids.length : Int) == 0) = false := by simpa using hk0
        have hz : (n.norm d box line li && decide (c + n.size ≤ 2000)) = false := by rw [PN.norm_eq, HCL.out, isEmpty_no hk0]; simp
        have HZ := qh hz
        clear hz hm hk0
        go_wp2_with (go_at_call 119; refine HA.out.mono ?_)
        rintro e w6 ⟨rfl, x6⟩
        have n3 := x6.cell n3
        have X6 := qh (XI.out.trans (x6.toB b))
        have O6 := qh (ONI.out.ext x6)
        clear x6 n0 n1 n2
        go_wp2_with fail
        go_ret
        exact FIN.out _ _ _ HZ.out X6.out O6.out (fun h => by cases h)
    · rw [hm] at HA
      have hz : (n.norm d box line li && decide (c + n.size ≤ 2000)) = false := by rw [PN.norm_eq, HCL.out, hm]; simp
      have HZ := qh hz
      clear hz hm
      go_wp2_with (go_at_call 119; refine HA.out.mono ?_)
      rintro e w6 ⟨rfl, x6⟩
      have X6 := qh (XI.out.trans (x6.toB b))
      have O6 := qh (ONI.out.ext x6)
      clear x6 n0 n1 n2 n3
      go_wp2_with fail
      go_ret
      exact FIN.out _ _ _ HZ.out X6.out O6.out (fun h => by cases h)
  · have e3 : (n.text.toList == ([] : List UInt8)) = false := text_some ht
    have hz : (n.norm d box line li && decide (c + n.size ≤ 2000)) = false := by rw [PN.norm_eq, HCL.out]; simp [ht]
    have HZ := qh hz
    clear hz ht
    go_wp2_with fail
    go_ret
    exact FIN.out _ _ _ HZ.out XI.out ONI.out (fun h => by cases h)
theorem lnode_4 {w0 : World} {n : PN} (hcls : clsT n.tag = 4) (hT : Tabs w0) (hkids : KOk w0 n) (htx : n.text.size ≤ 100000) (hal : n.attrs.length ≤ 100000000000000) : NOk w0 n := by
  intro b c d box line li w v hr hx hb ho hc hd hd2
  obtain ⟨av, kv, rfl, ha, hk⟩ := hr.open
  obtain ⟨ao, ac, rfl, _⟩ := ha.len_of
  obtain ⟨ka, kc, rfl, hk1, hk2, hk3, hk4⟩ := hk
  clear hk1 hk2 hk3 hk4
  have hbl := ho.lt
  have hws := hx.size
  have x1 := ((Ext.refl w).alloc (.cells #[.int .i64 n.tag, .slice ao n.attrs.length ac, .string n.text, .slice ka n.kids.length kc] 26))
  have bb := heap_alloc_new w (.cells #[.int .i64 n.tag, .slice ao n.attrs.length ac, .string n.text, .slice ka n.kids.length kc] 26)
  have fin : ∀ (q : Bool) (u : World) (c' : Nat), (n.norm d box line li && decide (c + n.size ≤ 2000)) = q → ExtB b w u → One u b (.int .i64 c') 75 → (q = true → c' = c + n.size) → Looked b c n.size (n.norm d box line li) w (.returned (.bool q)) u := by
    intro q u c' h1 h2 h3 h4
    exact ⟨c', by rw [h1], h2, h3, by rw [h1]; exact h4⟩
  have FIN := qh fin
  have HT := qh hT
  have HR := qh hr
  have HA0 := qh ha
  have HAL := qh hal
  have HTXT := qh htx
  have HX := qh hx
  have HNBB := qh hb
  have HKIDS := qh hkids
  have HSZ := qh n.size_eq
  have HO := qh ho
  clear fin hT hr ha hal htx hx hb hkids ho
  go_enter Tryz.func74, Tryz.ntmps74
  go_upto_region 1 with fail
  obtain ⟨w1, hw1⟩ : ∃ w1 : World, w1 = w.alloc (.cells #[.int .i64 n.tag, .slice ao n.attrs.length ac, .string n.text, .slice ka n.kids.length kc] 26) := ⟨_, rfl⟩
  have hsz : w1.heap.size = w.heap.size + 1 := by rw [hw1]; simp
  rw [← hw1] at x1 bb ⊢
  clear hw1
  have x2 := x1.alloc (.cells #[.int .i64 d, .bool box, .bool line, .bool li] 78)
  have b2 := ((Ext.refl w1).alloc (.cells #[.int .i64 d, .bool box, .bool line, .bool li] 78)).block bb
  have a2 := heap_alloc_new w1 (.cells #[.int .i64 d, .bool box, .bool line, .bool li] 78)
  rw [hsz] at a2
  obtain ⟨w2, hw2⟩ : ∃ w2 : World, w2 = w1.alloc (.cells #[.int .i64 d, .bool box, .bool line, .bool li] 78) := ⟨_, rfl⟩
  have hs2 : w.heap.size + 2 = w2.heap.size := by rw [hw2]; simp [hsz]
  have HS2 := qh hs2
  rw [← hw2] at x2 b2 a2 ⊢
  clear hw2 hsz x1 bb hs2
  have o2 := HO.out.ext x2
  have oc := o2.cell
  have of := o2.free
  have hwr : IntKind.i64.wrap ((c : Int) + 1) = ((c + 1 : Nat) : Int) := by rw [IntWalk.i64_left, IntWalk.wrap64_in _ (by omega)]; omega
  have B2 := qh b2
  have A2 := qh a2
  have X2 := qh x2
  have O2 := qh o2
  clear b2 a2 x2 o2
  go_upto_region 2 with fail
  obtain ⟨w3, hw3⟩ : ∃ w3 : World, w3 = w2.setCell ⟨b, 0, none⟩ (.int .i64 ((c : Int) + 1)) := ⟨_, rfl⟩
  have o3 : One w3 b (.int .i64 ((c : Int) + 1)) 75 := by rw [hw3]; exact O2.out.set _
  have nb3 : w3.heap[w.heap.size]? = some (.cells #[.int .i64 n.tag, .slice ao n.attrs.length ac, .string n.text, .slice ka n.kids.length kc] 26 (0, 0)) := by rw [hw3]; exact (heap_setCell_other (p := ⟨b, 0, none⟩) _ (by show w.heap.size ≠ b; omega)).trans B2.out
  have ab3 : w3.heap[w.heap.size + 1]? = some (.cells #[.int .i64 d, .bool box, .bool line, .bool li] 78 (0, 0)) := by rw [hw3]; exact (heap_setCell_other (p := ⟨b, 0, none⟩) _ (by show w.heap.size + 1 ≠ b; omega)).trans A2.out
  have x3 : ExtB b w w3 := by rw [hw3]; exact (X2.out.toB b).setCell (p := ⟨b, 0, none⟩) (.inl rfl) _
  have hs3 : w3.heap.size = w.heap.size + 2 := by rw [hw3]; simp [World.setCell]; exact HS2.out.symm
  rw [← hw3]
  clear hw3 oc of hwr
  have oc := o3.cell
  have n0 := cellOf nb3 (i := 0) (v := .int .i64 n.tag) rfl
  have v0 := cellOf ab3 (i := 0) (v := .int .i64 d) rfl
  have O3 := qh (show One w3 b (.int .i64 ((c + 1 : Nat) : Int)) 75 from by rw [show ((c + 1 : Nat) : Int) = (c : Int) + 1 by omega]; exact o3)
  have X3 := qh x3
  have NB3 := qh nb3
  have AB3 := qh ab3
  have HS3 := qh hs3
  clear o3 x3 nb3 ab3 hs3
  by_cases hc1 : c + 1 ≤ 2000
  case neg =>
    have hc2 : (2000 : Int) < (c : Int) + 1 := by omega
    have hz : (n.norm d box line li && decide (c + n.size ≤ 2000)) = false := by
      have := n.size_pos
      rw [decide_eq_false (by omega)]; simp
    have HZ := qh hz
    clear hc1 hz
    go_wp2_with fail
    go_ret
    exact FIN.out _ _ _ HZ.out X3.out O3.out (fun h => by cases h)
  have hc2 : ¬ (2000 : Int) < (c : Int) + 1 := by omega
  have HC1 := qh hc1
  clear hc1
  by_cases hd3 : 40 < d
  · have hz : (n.norm d box line li && decide (c + n.size ≤ 2000)) = false := by
      rw [PN.norm_eq, decide_eq_false (by omega)]; simp
    have HZ := qh hz
    clear hz
    go_wp2_with fail
    go_ret
    exact FIN.out _ _ _ HZ.out X3.out O3.out (fun h => by cases h)
  have hd4 : d ≤ 40 := by omega
  have HD4 := qh (show decide (d ≤ 40) = true from decide_eq_true hd4)
  have hcl := Class_any w3 n.tag
  rw [hcls] at hcl
  have HCLS := qh hcl
  have HCL := qh hcls
  clear hcl hcls
  have hdw : IntKind.i64.wrap (d + 1) = d + 1 := by rw [IntWalk.i64_left, IntWalk.wrap64_in _ (by omega)]
  go_upto_region 6 with (refine HCLS.out.mono ?_; rintro e w4 ⟨rfl, x4⟩; clear v0; have ab4 := x4.block AB3.out; have v0 := cellOf ab4 (i := 0) (v := .int .i64 d) rfl; have v1 := cellOf ab4 (i := 1) (v := .bool box) rfl; have v2 := cellOf ab4 (i := 2) (v := .bool line) rfl; have v3 := cellOf ab4 (i := 3) (v := .bool li) rfl; have O4 := qh (O3.out.ext x4); have X4 := qh (X3.out.trans (x4.toB b)); have NB4 := qh (x4.block NB3.out); have AB4 := qh ab4; have HS4 := qh (Nat.le_trans (Nat.le_of_eq HS3.out.symm) x4.size); clear x4 ab4 n0)
  clear v0 v1 v2 v3
  obtain ⟨bi, hbi⟩ : ∃ bi, w4.heap.size = bi := ⟨_, rfl⟩
  obtain ⟨wI, hwI⟩ : ∃ wI : World, wI = w4.alloc (.cells #[.int .i64 (d + 1), .bool false, .bool line, .bool li] 78) := ⟨_, rfl⟩
  have xI : Ext w4 wI := by rw [hwI]; exact (Ext.refl w4).alloc _
  have ib0 : wI.heap[bi]? = some (.cells #[.int .i64 (d + 1), .bool false, .bool line, .bool li] 78 (0, 0)) := by rw [← hbi, hwI]; exact heap_alloc_new w4 _
  rw [← hwI, hbi]
  clear hwI
  have HBI := qh (show w.heap.size ≠ bi ∧ b ≠ bi ∧ w.heap.size ≤ bi by have := HS4.out; omega)
  have NBI := qh (xI.block NB4.out)
  have ABI := qh (xI.block AB4.out)
  have ONI := qh (O4.out.ext xI)
  have XI := qh (X4.out.trans (xI.toB b))
  have IB0 := qh ib0
  have n0 := cellOf NBI.out (i := 0) (v := .int .i64 n.tag) rfl
  have n1 := cellOf NBI.out (i := 1) (v := .slice ao n.attrs.length ac) rfl
  have n2 := cellOf NBI.out (i := 2) (v := .string n.text) rfl
  have n3 := cellOf NBI.out (i := 3) (v := .slice ka n.kids.length kc) rfl
  have v0 := cellOf ABI.out (i := 0) (v := .int .i64 d) rfl
  have v1 := cellOf ABI.out (i := 1) (v := .bool box) rfl
  have v2 := cellOf ABI.out (i := 2) (v := .bool line) rfl
  have v3 := cellOf ABI.out (i := 3) (v := .bool li) rfl
  clear xI ib0 hbi hdw HCLS
  have IB := qh (show wI.heap[bi]? = some (.cells #[.int .i64 (d + 1), .bool false, .bool line, .bool li] 78 (0, 0)) from IB0.out)
  have hnm : n.norm d box line li = (n.text.size == 0 && attrsMay n.attrs && PN.norms (d + 1) false line li false n.kids) := by
    rw [PN.norm_eq, HCL.out, HD4.out]; rfl
  have HNM := qh hnm
  clear hnm
  go_upto_region 19 with fail
  obtain ⟨wT, hwT⟩ : ∃ wT : World, wT = wI := ⟨_, rfl⟩
  have ib : wT.heap[bi]? = some (.cells #[.int .i64 (d + 1), .bool false, .bool line, .bool li] 78 (0, 0)) := by rw [hwT]; exact IB.out
  have nb : wT.heap[w.heap.size]? = some (.cells #[.int .i64 n.tag, .slice ao n.attrs.length ac, .string n.text, .slice ka n.kids.length kc] 26 (0, 0)) := by rw [hwT]; exact NBI.out
  have on : One wT b (.int .i64 ((c + 1 : Nat) : Int)) 75 := by rw [hwT]; exact ONI.out
  have xt : ExtB b w wT := by rw [hwT]; exact XI.out
  rw [← hwT]
  clear hwT 
  have n0 := cellOf nb (i := 0) (v := .int .i64 n.tag) rfl
  have n1 := cellOf nb (i := 1) (v := .slice ao n.attrs.length ac) rfl
  have n2 := cellOf nb (i := 2) (v := .string n.text) rfl
  have n3 := cellOf nb (i := 3) (v := .slice ka n.kids.length kc) rfl
  have XT := qh xt
  have ON := qh on
  have IB2 := qh ib
  have NB2 := qh nb
  clear xt on ib nb
  by_cases ht : n.text.size = 0
  · have e3 : (n.text.toList == ([] : List UInt8)) = true := text_none ht
    have HTX := qh ht
    have hx0 : Ext w0 wT := XT.out.ext HX.out HNBB.out
    have HA := qh (AMay_any n.attrs _ wT (HA0.out.cells hx0.cells) HAL.out (HT.out.ext hx0))
    clear ht hx0
    have hm : attrsMay n.attrs = true ∨ attrsMay n.attrs = false := by cases attrsMay n.attrs; exact .inr rfl; exact .inl rfl
    rcases hm with hm | hm
    · rw [hm] at HA
      go_wp2_with (go_at_call 119; refine HA.out.mono ?_)
      rintro e w6 ⟨rfl, x6⟩
      have n0 := x6.cell n0
      have n1 := x6.cell n1
      have n2 := x6.cell n2
      have n3 := x6.cell n3
      have ib6 := x6.block IB2.out
      have v0 := cellOf ib6 (i := 0) (v := .int .i64 (d + 1)) rfl
      have v1 := cellOf ib6 (i := 1) (v := .bool false) rfl
      have v2 := cellOf ib6 (i := 2) (v := .bool line) rfl
      have v3 := cellOf ib6 (i := 3) (v := .bool li) rfl
      have X6 := qh (XT.out.trans (x6.toB b))
      have HK := qh (HKIDS.out b (c + 1) (d + 1) false line li w6 _ HR.out (X6.out.ext HX.out HNBB.out) HNBB.out (ON.out.ext x6) HC1.out (by omega) (by omega))
      have fin6 : ∀ (q : Bool) (u : World) (c' : Nat), (PN.norms (d + 1) false line li false n.kids && decide (c + 1 + PN.sizes n.kids ≤ 2000)) = q → ExtB b w u → One u b (.int .i64 c') 75 → (q = true → c' = c + 1 + PN.sizes n.kids) → Looked b c n.size (n.norm d box line li) w (.returned (.bool q)) u := by
        intro q u c' h1 h2 h3 h4
        refine FIN.out q u c' ?_ h2 h3 (fun h => ?_)
        · rw [HNM.out, HTX.out, hm, HSZ.out, show c + (PN.sizes n.kids + 1) = c + 1 + PN.sizes n.kids by omega]; simpa using h1
        · rw [h4 h, HSZ.out]; omega
      have FIN6 := qh fin6
      clear fin6 hm x6 ib6
      have hq : (PN.norms (d + 1) false line li false n.kids && decide (c + 1 + PN.sizes n.kids ≤ 2000)) = true ∨ (PN.norms (d + 1) false line li false n.kids && decide (c + 1 + PN.sizes n.kids ≤ 2000)) = false := by cases (PN.norms (d + 1) false line li false n.kids && decide (c + 1 + PN.sizes n.kids ≤ 2000)); exact .inr rfl; exact .inl rfl
      obtain ⟨q, hq9⟩ : ∃ q, (PN.norms (d + 1) false line li false n.kids && decide (c + 1 + PN.sizes n.kids ≤ 2000)) = q := ⟨_, rfl⟩
      have HQ9 := qh hq9
      clear hq hq9
      go_wp2_with (go_at_call 35; refine HK.out.mono ?_)
      rintro e w7 ⟨c7, rfl, x7, o7, h7⟩
      have X7 := qh (X6.out.trans x7)
      have O7 := qh o7
      have H7 := qh h7
      rw [HQ9.out]
      clear x7 o7 h7 n0 n1 n2 n3 v0 v1 v2 v3
      go_wp2_with fail
      go_ret
      exact FIN6.out q _ c7 HQ9.out X7.out O7.out (fun h => H7.out (HQ9.out.trans h))
    · rw [hm] at HA
      have hz : (n.norm d box line li && decide (c + n.size ≤ 2000)) = false := by rw [HNM.out, hm]; simp
      have HZ := qh hz
      clear hz hm
      go_wp2_with (go_at_call 119; refine HA.out.mono ?_)
      rintro e w6 ⟨rfl, x6⟩
      have X6 := qh (XT.out.trans (x6.toB b))
      have O6 := qh (ON.out.ext x6)
      clear x6 n0 n1 n2 n3
      go_wp2_with fail
      go_ret
      exact FIN.out _ _ _ HZ.out X6.out O6.out (fun h => by cases h)
  · have e3 : (n.text.toList == ([] : List UInt8)) = false := text_some ht
    have hz : (n.norm d box line li && decide (c + n.size ≤ 2000)) = false := by rw [HNM.out]; simp [ht]
    have HZ := qh hz
    clear hz ht
    go_wp2_with fail
    go_ret
    exact FIN.out _ _ _ HZ.out XT.out ON.out (fun h => by cases h)
theorem lnode_3 {w0 : World} {n : PN} (hcls : clsT n.tag = 3) (hT : Tabs w0) (hkids : KOk w0 n) (htx : n.text.size ≤ 100000) (hal : n.attrs.length ≤ 100000000000000) : NOk w0 n := by
  intro b c d box line li w v hr hx hb ho hc hd hd2
  obtain ⟨av, kv, rfl, ha, hk⟩ := hr.open
  obtain ⟨ao, ac, rfl, _⟩ := ha.len_of
  obtain ⟨ka, kc, rfl, hk1, hk2, hk3, hk4⟩ := hk
  clear hk1 hk2 hk3 hk4
  have hbl := ho.lt
  have hws := hx.size
  have x1 := ((Ext.refl w).alloc (.cells #[.int .i64 n.tag, .slice ao n.attrs.length ac, .string n.text, .slice ka n.kids.length kc] 26))
  have bb := heap_alloc_new w (.cells #[.int .i64 n.tag, .slice ao n.attrs.length ac, .string n.text, .slice ka n.kids.length kc] 26)
  have fin : ∀ (q : Bool) (u : World) (c' : Nat), (n.norm d box line li && decide (c + n.size ≤ 2000)) = q → ExtB b w u → One u b (.int .i64 c') 75 → (q = true → c' = c + n.size) → Looked b c n.size (n.norm d box line li) w (.returned (.bool q)) u := by
    intro q u c' h1 h2 h3 h4
    exact ⟨c', by rw [h1], h2, h3, by rw [h1]; exact h4⟩
  have FIN := qh fin
  have HT := qh hT
  have HR := qh hr
  have HA0 := qh ha
  have HAL := qh hal
  have HTXT := qh htx
  have HX := qh hx
  have HNBB := qh hb
  have HKIDS := qh hkids
  have HSZ := qh n.size_eq
  have HO := qh ho
  clear fin hT hr ha hal htx hx hb hkids ho
  go_enter Tryz.func74, Tryz.ntmps74
  go_upto_region 1 with fail
  obtain ⟨w1, hw1⟩ : ∃ w1 : World, w1 = w.alloc (.cells #[.int .i64 n.tag, .slice ao n.attrs.length ac, .string n.text, .slice ka n.kids.length kc] 26) := ⟨_, rfl⟩
  have hsz : w1.heap.size = w.heap.size + 1 := by rw [hw1]; simp
  rw [← hw1] at x1 bb ⊢
  clear hw1
  have x2 := x1.alloc (.cells #[.int .i64 d, .bool box, .bool line, .bool li] 78)
  have b2 := ((Ext.refl w1).alloc (.cells #[.int .i64 d, .bool box, .bool line, .bool li] 78)).block bb
  have a2 := heap_alloc_new w1 (.cells #[.int .i64 d, .bool box, .bool line, .bool li] 78)
  rw [hsz] at a2
  obtain ⟨w2, hw2⟩ : ∃ w2 : World, w2 = w1.alloc (.cells #[.int .i64 d, .bool box, .bool line, .bool li] 78) := ⟨_, rfl⟩
  have hs2 : w.heap.size + 2 = w2.heap.size := by rw [hw2]; simp [hsz]
  have HS2 := qh hs2
  rw [← hw2] at x2 b2 a2 ⊢
  clear hw2 hsz x1 bb hs2
  have o2 := HO.out.ext x2
  have oc := o2.cell
  have of := o2.free
  have hwr : IntKind.i64.wrap ((c : Int) + 1) = ((c + 1 : Nat) : Int) := by rw [IntWalk.i64_left, IntWalk.wrap64_in _ (by omega)]; omega
  have B2 := qh b2
  have A2 := qh a2
  have X2 := qh x2
  have O2 := qh o2
  clear b2 a2 x2 o2
  go_upto_region 2 with fail
  obtain ⟨w3, hw3⟩ : ∃ w3 : World, w3 = w2.setCell ⟨b, 0, none⟩ (.int .i64 ((c : Int) + 1)) := ⟨_, rfl⟩
  have o3 : One w3 b (.int .i64 ((c : Int) + 1)) 75 := by rw [hw3]; exact O2.out.set _
  have nb3 : w3.heap[w.heap.size]? = some (.cells #[.int .i64 n.tag, .slice ao n.attrs.length ac, .string n.text, .slice ka n.kids.length kc] 26 (0, 0)) := by rw [hw3]; exact (heap_setCell_other (p := ⟨b, 0, none⟩) _ (by show w.heap.size ≠ b; omega)).trans B2.out
  have ab3 : w3.heap[w.heap.size + 1]? = some (.cells #[.int .i64 d, .bool box, .bool line, .bool li] 78 (0, 0)) := by rw [hw3]; exact (heap_setCell_other (p := ⟨b, 0, none⟩) _ (by show w.heap.size + 1 ≠ b; omega)).trans A2.out
  have x3 : ExtB b w w3 := by rw [hw3]; exact (X2.out.toB b).setCell (p := ⟨b, 0, none⟩) (.inl rfl) _
  have hs3 : w3.heap.size = w.heap.size + 2 := by rw [hw3]; simp [World.setCell]; exact HS2.out.symm
  rw [← hw3]
  clear hw3 oc of hwr
  have oc := o3.cell
  have n0 := cellOf nb3 (i := 0) (v := .int .i64 n.tag) rfl
  have v0 := cellOf ab3 (i := 0) (v := .int .i64 d) rfl
  have O3 := qh (show One w3 b (.int .i64 ((c + 1 : Nat) : Int)) 75 from by rw [show ((c + 1 : Nat) : Int) = (c : Int) + 1 by omega]; exact o3)
  have X3 := qh x3
  have NB3 := qh nb3
  have AB3 := qh ab3
  have HS3 := qh hs3
  clear o3 x3 nb3 ab3 hs3
  by_cases hc1 : c + 1 ≤ 2000
  case neg =>
    have hc2 : (2000 : Int) < (c : Int) + 1 := by omega
    have hz : (n.norm d box line li && decide (c + n.size ≤ 2000)) = false := by
      have := n.size_pos
      rw [decide_eq_false (by omega)]; simp
    have HZ := qh hz
    clear hc1 hz
    go_wp2_with fail
    go_ret
    exact FIN.out _ _ _ HZ.out X3.out O3.out (fun h => by cases h)
  have hc2 : ¬ (2000 : Int) < (c : Int) + 1 := by omega
  have HC1 := qh hc1
  clear hc1
  by_cases hd3 : 40 < d
  · have hz : (n.norm d box line li && decide (c + n.size ≤ 2000)) = false := by
      rw [PN.norm_eq, decide_eq_false (by omega)]; simp
    have HZ := qh hz
    clear hz
    go_wp2_with fail
    go_ret
    exact FIN.out _ _ _ HZ.out X3.out O3.out (fun h => by cases h)
  have hd4 : d ≤ 40 := by omega
  have HD4 := qh (show decide (d ≤ 40) = true from decide_eq_true hd4)
  have hcl := Class_any w3 n.tag
  rw [hcls] at hcl
  have HCLS := qh hcl
  have HCL := qh hcls
  clear hcl hcls
  have hdw : IntKind.i64.wrap (d + 1) = d + 1 := by rw [IntWalk.i64_left, IntWalk.wrap64_in _ (by omega)]
  go_upto_region 6 with (refine HCLS.out.mono ?_; rintro e w4 ⟨rfl, x4⟩; clear v0; have ab4 := x4.block AB3.out; have v0 := cellOf ab4 (i := 0) (v := .int .i64 d) rfl; have v1 := cellOf ab4 (i := 1) (v := .bool box) rfl; have v2 := cellOf ab4 (i := 2) (v := .bool line) rfl; have v3 := cellOf ab4 (i := 3) (v := .bool li) rfl; have O4 := qh (O3.out.ext x4); have X4 := qh (X3.out.trans (x4.toB b)); have NB4 := qh (x4.block NB3.out); have AB4 := qh ab4; have HS4 := qh (Nat.le_trans (Nat.le_of_eq HS3.out.symm) x4.size); clear x4 ab4 n0)
  clear v0 v1 v2 v3
  obtain ⟨bi, hbi⟩ : ∃ bi, w4.heap.size = bi := ⟨_, rfl⟩
  obtain ⟨wI, hwI⟩ : ∃ wI : World, wI = w4.alloc (.cells #[.int .i64 (d + 1), .bool false, .bool line, .bool li] 78) := ⟨_, rfl⟩
  have xI : Ext w4 wI := by rw [hwI]; exact (Ext.refl w4).alloc _
  have ib0 : wI.heap[bi]? = some (.cells #[.int .i64 (d + 1), .bool false, .bool line, .bool li] 78 (0, 0)) := by rw [← hbi, hwI]; exact heap_alloc_new w4 _
  rw [← hwI, hbi]
  clear hwI
  have HBI := qh (show w.heap.size ≠ bi ∧ b ≠ bi ∧ w.heap.size ≤ bi by have := HS4.out; omega)
  have NBI := qh (xI.block NB4.out)
  have ABI := qh (xI.block AB4.out)
  have ONI := qh (O4.out.ext xI)
  have XI := qh (X4.out.trans (xI.toB b))
  have IB0 := qh ib0
  have n0 := cellOf NBI.out (i := 0) (v := .int .i64 n.tag) rfl
  have n1 := cellOf NBI.out (i := 1) (v := .slice ao n.attrs.length ac) rfl
  have n2 := cellOf NBI.out (i := 2) (v := .string n.text) rfl
  have n3 := cellOf NBI.out (i := 3) (v := .slice ka n.kids.length kc) rfl
  have v0 := cellOf ABI.out (i := 0) (v := .int .i64 d) rfl
  have v1 := cellOf ABI.out (i := 1) (v := .bool box) rfl
  have v2 := cellOf ABI.out (i := 2) (v := .bool line) rfl
  have v3 := cellOf ABI.out (i := 3) (v := .bool li) rfl
  clear xI ib0 hbi hdw HCLS
  cases line with
  | true =>
    have HZ := qh (show (n.norm d box true li && decide (c + n.size ≤ 2000)) = false from by rw [PN.norm_eq, HCL.out]; simp)
    go_wp2_with fail
    go_ret
    exact FIN.out _ _ _ HZ.out XI.out ONI.out (fun h => by cases h)
  | false =>
    have h9 : (n.tag == 9) = true ∨ (n.tag == 9) = false := by cases (n.tag == 9); exact .inr rfl; exact .inl rfl
    rcases h9 with h9 | h9
    · have b9 : (n.tag != 9) = false := by rw [bne, h9]; rfl
      cases li with
      | true =>
        have HZ := qh (show (n.norm d box false true && decide (c + n.size ≤ 2000)) = false from by rw [PN.norm_eq, HCL.out]; simp [h9])
        go_wp2_with fail
        go_ret
        exact FIN.out _ _ _ HZ.out XI.out ONI.out (fun h => by cases h)
      | false =>
        have IB := qh (show wI.heap[bi]? = some (.cells #[.int .i64 (d + 1), .bool false, .bool false, .bool false] 78 (0, 0)) from IB0.out)
        have hnm : n.norm d box false false = (n.text.size == 0 && attrsMay n.attrs && PN.norms (d + 1) false false true false n.kids) := by
          rw [PN.norm_eq, HCL.out, HD4.out]; simp only [bne, h9]; rfl
        have HNM := qh hnm
        clear hnm
        have i2 := cellOf IB.out (i := 2) (v := .bool false) rfl
        have i3 := cellOf IB.out (i := 3) (v := .bool false) rfl
        have g2 := freeOf IB.out 2
        have g3 := freeOf IB.out 3
        go_upto_region 19 with fail
        obtain ⟨wT, hwT⟩ : ∃ wT : World, wT = ((wI.setCell ⟨bi, 2, none⟩ (.bool false)).setCell ⟨bi, 3, none⟩ (.bool true)) := ⟨_, rfl⟩
        have ib : wT.heap[bi]? = some (.cells #[.int .i64 (d + 1), .bool false, .bool false, .bool true] 78 (0, 0)) := by rw [hwT]; exact heap_setCell_same (heap_setCell_same IB.out (.bool false)) (.bool true)
        have nb : wT.heap[w.heap.size]? = some (.cells #[.int .i64 n.tag, .slice ao n.attrs.length ac, .string n.text, .slice ka n.kids.length kc] 26 (0, 0)) := by rw [hwT]; exact ((heap_setCell_other (p := ⟨bi, 3, none⟩) _ HBI.out.1).trans (heap_setCell_other (p := ⟨bi, 2, none⟩) _ HBI.out.1)).trans NBI.out
        have on : One wT b (.int .i64 ((c + 1 : Nat) : Int)) 75 := by rw [hwT]; exact ((heap_setCell_other (p := ⟨bi, 3, none⟩) _ HBI.out.2.1).trans (heap_setCell_other (p := ⟨bi, 2, none⟩) _ HBI.out.2.1)).trans ONI.out
        have xt : ExtB b w wT := by rw [hwT]; exact (XI.out.setCell (p := ⟨bi, 2, none⟩) (.inr HBI.out.2.2) _).setCell (p := ⟨bi, 3, none⟩) (.inr HBI.out.2.2) _
        rw [← hwT]
        clear hwT i2 i3 g2 g3
        have n0 := cellOf nb (i := 0) (v := .int .i64 n.tag) rfl
        have n1 := cellOf nb (i := 1) (v := .slice ao n.attrs.length ac) rfl
        have n2 := cellOf nb (i := 2) (v := .string n.text) rfl
        have n3 := cellOf nb (i := 3) (v := .slice ka n.kids.length kc) rfl
        have XT := qh xt
        have ON := qh on
        have IB2 := qh ib
        have NB2 := qh nb
        clear xt on ib nb
        by_cases ht : n.text.size = 0
        · have e3 : (n.text.toList == ([] : List UInt8)) = true := text_none ht
          have HTX := qh ht
          have hx0 : Ext w0 wT := XT.out.ext HX.out HNBB.out
          have HA := qh (AMay_any n.attrs _ wT (HA0.out.cells hx0.cells) HAL.out (HT.out.ext hx0))
          clear ht hx0
          have hm : attrsMay n.attrs = true ∨ attrsMay n.attrs = false := by cases attrsMay n.attrs; exact .inr rfl; exact .inl rfl
          rcases hm with hm | hm
          · rw [hm] at HA
            go_wp2_with (go_at_call 119; refine HA.out.mono ?_)
            rintro e w6 ⟨rfl, x6⟩
            have n0 := x6.cell n0
            have n1 := x6.cell n1
            have n2 := x6.cell n2
            have n3 := x6.cell n3
            have ib6 := x6.block IB2.out
            have v0 := cellOf ib6 (i := 0) (v := .int .i64 (d + 1)) rfl
            have v1 := cellOf ib6 (i := 1) (v := .bool false) rfl
            have v2 := cellOf ib6 (i := 2) (v := .bool false) rfl
            have v3 := cellOf ib6 (i := 3) (v := .bool true) rfl
            have X6 := qh (XT.out.trans (x6.toB b))
            have HK := qh (HKIDS.out b (c + 1) (d + 1) false false true w6 _ HR.out (X6.out.ext HX.out HNBB.out) HNBB.out (ON.out.ext x6) HC1.out (by omega) (by omega))
            have fin6 : ∀ (q : Bool) (u : World) (c' : Nat), (PN.norms (d + 1) false false true false n.kids && decide (c + 1 + PN.sizes n.kids ≤ 2000)) = q → ExtB b w u → One u b (.int .i64 c') 75 → (q = true → c' = c + 1 + PN.sizes n.kids) → Looked b c n.size (n.norm d box false false) w (.returned (.bool q)) u := by
              intro q u c' h1 h2 h3 h4
              refine FIN.out q u c' ?_ h2 h3 (fun h => ?_)
              · rw [HNM.out, HTX.out, hm, HSZ.out, show c + (PN.sizes n.kids + 1) = c + 1 + PN.sizes n.kids by omega]; simpa using h1
              · rw [h4 h, HSZ.out]; omega
            have FIN6 := qh fin6
            clear fin6 hm x6 ib6
            have hq : (PN.norms (d + 1) false false true false n.kids && decide (c + 1 + PN.sizes n.kids ≤ 2000)) = true ∨ (PN.norms (d + 1) false false true false n.kids && decide (c + 1 + PN.sizes n.kids ≤ 2000)) = false := by cases (PN.norms (d + 1) false false true false n.kids && decide (c + 1 + PN.sizes n.kids ≤ 2000)); exact .inr rfl; exact .inl rfl
            obtain ⟨q, hq9⟩ : ∃ q, (PN.norms (d + 1) false false true false n.kids && decide (c + 1 + PN.sizes n.kids ≤ 2000)) = q := ⟨_, rfl⟩
            have HQ9 := qh hq9
            clear hq hq9
            go_wp2_with (go_at_call 35; refine HK.out.mono ?_)
            rintro e w7 ⟨c7, rfl, x7, o7, h7⟩
            have X7 := qh (X6.out.trans x7)
            have O7 := qh o7
            have H7 := qh h7
            rw [HQ9.out]
            clear x7 o7 h7 n0 n1 n2 n3 v0 v1 v2 v3
            go_wp2_with fail
            go_ret
            exact FIN6.out q _ c7 HQ9.out X7.out O7.out (fun h => H7.out (HQ9.out.trans h))
          · rw [hm] at HA
            have hz : (n.norm d box false false && decide (c + n.size ≤ 2000)) = false := by rw [HNM.out, hm]; simp
            have HZ := qh hz
            clear hz hm
            go_wp2_with (go_at_call 119; refine HA.out.mono ?_)
            rintro e w6 ⟨rfl, x6⟩
            have X6 := qh (XT.out.trans (x6.toB b))
            have O6 := qh (ON.out.ext x6)
            clear x6 n0 n1 n2 n3
            go_wp2_with fail
            go_ret
            exact FIN.out _ _ _ HZ.out X6.out O6.out (fun h => by cases h)
        · have e3 : (n.text.toList == ([] : List UInt8)) = false := text_some ht
          have hz : (n.norm d box false false && decide (c + n.size ≤ 2000)) = false := by rw [HNM.out]; simp [ht]
          have HZ := qh hz
          clear hz ht
          go_wp2_with fail
          go_ret
          exact FIN.out _ _ _ HZ.out XT.out ON.out (fun h => by cases h)
    · have b9 : (n.tag != 9) = true := by rw [bne, h9]; rfl
      cases li with
      | true =>
        have h7 : (n.tag == 7) = false := by simpa using (cls_three HCL.out).1
        have h8 : (n.tag == 8) = false := by simpa using (cls_three HCL.out).2
        have b7 : (n.tag != 7) = true := by rw [bne, h7]; rfl
        have b8 : (n.tag != 8) = true := by rw [bne, h8]; rfl
        have IB := qh (show wI.heap[bi]? = some (.cells #[.int .i64 (d + 1), .bool false, .bool false, .bool true] 78 (0, 0)) from IB0.out)
        have hnm : n.norm d box false true = (n.text.size == 0 && attrsMay n.attrs && PN.norms (d + 1) false true true false n.kids) := by
          rw [PN.norm_eq, HCL.out, HD4.out]; simp only [bne, h9, h7, h8]; rfl
        have HNM := qh hnm
        clear hnm
        have i2 := cellOf IB.out (i := 2) (v := .bool false) rfl
        have i3 := cellOf IB.out (i := 3) (v := .bool true) rfl
        have g2 := freeOf IB.out 2
        have g3 := freeOf IB.out 3
        go_upto_region 19 with fail
        obtain ⟨wT, hwT⟩ : ∃ wT : World, wT = ((wI.setCell ⟨bi, 2, none⟩ (.bool true)).setCell ⟨bi, 3, none⟩ (.bool true)) := ⟨_, rfl⟩
        have ib : wT.heap[bi]? = some (.cells #[.int .i64 (d + 1), .bool false, .bool true, .bool true] 78 (0, 0)) := by rw [hwT]; exact heap_setCell_same (heap_setCell_same IB.out (.bool true)) (.bool true)
        have nb : wT.heap[w.heap.size]? = some (.cells #[.int .i64 n.tag, .slice ao n.attrs.length ac, .string n.text, .slice ka n.kids.length kc] 26 (0, 0)) := by rw [hwT]; exact ((heap_setCell_other (p := ⟨bi, 3, none⟩) _ HBI.out.1).trans (heap_setCell_other (p := ⟨bi, 2, none⟩) _ HBI.out.1)).trans NBI.out
        have on : One wT b (.int .i64 ((c + 1 : Nat) : Int)) 75 := by rw [hwT]; exact ((heap_setCell_other (p := ⟨bi, 3, none⟩) _ HBI.out.2.1).trans (heap_setCell_other (p := ⟨bi, 2, none⟩) _ HBI.out.2.1)).trans ONI.out
        have xt : ExtB b w wT := by rw [hwT]; exact (XI.out.setCell (p := ⟨bi, 2, none⟩) (.inr HBI.out.2.2) _).setCell (p := ⟨bi, 3, none⟩) (.inr HBI.out.2.2) _
        rw [← hwT]
        clear hwT i2 i3 g2 g3
        have n0 := cellOf nb (i := 0) (v := .int .i64 n.tag) rfl
        have n1 := cellOf nb (i := 1) (v := .slice ao n.attrs.length ac) rfl
        have n2 := cellOf nb (i := 2) (v := .string n.text) rfl
        have n3 := cellOf nb (i := 3) (v := .slice ka n.kids.length kc) rfl
        have XT := qh xt
        have ON := qh on
        have IB2 := qh ib
        have NB2 := qh nb
        clear xt on ib nb
        by_cases ht : n.text.size = 0
        · have e3 : (n.text.toList == ([] : List UInt8)) = true := text_none ht
          have HTX := qh ht
          have hx0 : Ext w0 wT := XT.out.ext HX.out HNBB.out
          have HA := qh (AMay_any n.attrs _ wT (HA0.out.cells hx0.cells) HAL.out (HT.out.ext hx0))
          clear ht hx0
          have hm : attrsMay n.attrs = true ∨ attrsMay n.attrs = false := by cases attrsMay n.attrs; exact .inr rfl; exact .inl rfl
          rcases hm with hm | hm
          · rw [hm] at HA
            go_wp2_with (go_at_call 119; refine HA.out.mono ?_)
            rintro e w6 ⟨rfl, x6⟩
            have n0 := x6.cell n0
            have n1 := x6.cell n1
            have n2 := x6.cell n2
            have n3 := x6.cell n3
            have ib6 := x6.block IB2.out
            have v0 := cellOf ib6 (i := 0) (v := .int .i64 (d + 1)) rfl
            have v1 := cellOf ib6 (i := 1) (v := .bool false) rfl
            have v2 := cellOf ib6 (i := 2) (v := .bool true) rfl
            have v3 := cellOf ib6 (i := 3) (v := .bool true) rfl
            have X6 := qh (XT.out.trans (x6.toB b))
            have HK := qh (HKIDS.out b (c + 1) (d + 1) false true true w6 _ HR.out (X6.out.ext HX.out HNBB.out) HNBB.out (ON.out.ext x6) HC1.out (by omega) (by omega))
            have fin6 : ∀ (q : Bool) (u : World) (c' : Nat), (PN.norms (d + 1) false true true false n.kids && decide (c + 1 + PN.sizes n.kids ≤ 2000)) = q → ExtB b w u → One u b (.int .i64 c') 75 → (q = true → c' = c + 1 + PN.sizes n.kids) → Looked b c n.size (n.norm d box false true) w (.returned (.bool q)) u := by
              intro q u c' h1 h2 h3 h4
              refine FIN.out q u c' ?_ h2 h3 (fun h => ?_)
              · rw [HNM.out, HTX.out, hm, HSZ.out, show c + (PN.sizes n.kids + 1) = c + 1 + PN.sizes n.kids by omega]; simpa using h1
              · rw [h4 h, HSZ.out]; omega
            have FIN6 := qh fin6
            clear fin6 hm x6 ib6
            have hq : (PN.norms (d + 1) false true true false n.kids && decide (c + 1 + PN.sizes n.kids ≤ 2000)) = true ∨ (PN.norms (d + 1) false true true false n.kids && decide (c + 1 + PN.sizes n.kids ≤ 2000)) = false := by cases (PN.norms (d + 1) false true true false n.kids && decide (c + 1 + PN.sizes n.kids ≤ 2000)); exact .inr rfl; exact .inl rfl
            obtain ⟨q, hq9⟩ : ∃ q, (PN.norms (d + 1) false true true false n.kids && decide (c + 1 + PN.sizes n.kids ≤ 2000)) = q := ⟨_, rfl⟩
            have HQ9 := qh hq9
            clear hq hq9
            go_wp2_with (go_at_call 35; refine HK.out.mono ?_)
            rintro e w7 ⟨c7, rfl, x7, o7, h7⟩
            have X7 := qh (X6.out.trans x7)
            have O7 := qh o7
            have H7 := qh h7
            rw [HQ9.out]
            clear x7 o7 h7 n0 n1 n2 n3 v0 v1 v2 v3
            go_wp2_with fail
            go_ret
            exact FIN6.out q _ c7 HQ9.out X7.out O7.out (fun h => H7.out (HQ9.out.trans h))
          · rw [hm] at HA
            have hz : (n.norm d box false true && decide (c + n.size ≤ 2000)) = false := by rw [HNM.out, hm]; simp
            have HZ := qh hz
            clear hz hm
            go_wp2_with (go_at_call 119; refine HA.out.mono ?_)
            rintro e w6 ⟨rfl, x6⟩
            have X6 := qh (XT.out.trans (x6.toB b))
            have O6 := qh (ON.out.ext x6)
            clear x6 n0 n1 n2 n3
            go_wp2_with fail
            go_ret
            exact FIN.out _ _ _ HZ.out X6.out O6.out (fun h => by cases h)
        · have e3 : (n.text.toList == ([] : List UInt8)) = false := text_some ht
          have hz : (n.norm d box false true && decide (c + n.size ≤ 2000)) = false := by rw [HNM.out]; simp [ht]
          have HZ := qh hz
          clear hz ht
          go_wp2_with fail
          go_ret
          exact FIN.out _ _ _ HZ.out XT.out ON.out (fun h => by cases h)
      | false =>
        have IB := qh (show wI.heap[bi]? = some (.cells #[.int .i64 (d + 1), .bool false, .bool false, .bool false] 78 (0, 0)) from IB0.out)
        have hnm : n.norm d box false false = (n.text.size == 0 && attrsMay n.attrs && PN.norms (d + 1) false true false false n.kids) := by
          rw [PN.norm_eq, HCL.out, HD4.out]; simp only [bne, h9]; rfl
        have HNM := qh hnm
        clear hnm
        have i2 := cellOf IB.out (i := 2) (v := .bool false) rfl
        have i3 := cellOf IB.out (i := 3) (v := .bool false) rfl
        have g2 := freeOf IB.out 2
        have g3 := freeOf IB.out 3
        go_upto_region 19 with fail
        obtain ⟨wT, hwT⟩ : ∃ wT : World, wT = ((wI.setCell ⟨bi, 2, none⟩ (.bool true)).setCell ⟨bi, 3, none⟩ (.bool false)) := ⟨_, rfl⟩
        have ib : wT.heap[bi]? = some (.cells #[.int .i64 (d + 1), .bool false, .bool true, .bool false] 78 (0, 0)) := by rw [hwT]; exact heap_setCell_same (heap_setCell_same IB.out (.bool true)) (.bool false)
        have nb : wT.heap[w.heap.size]? = some (.cells #[.int .i64 n.tag, .slice ao n.attrs.length ac, .string n.text, .slice ka n.kids.length kc] 26 (0, 0)) := by rw [hwT]; exact ((heap_setCell_other (p := ⟨bi, 3, none⟩) _ HBI.out.1).trans (heap_setCell_other (p := ⟨bi, 2, none⟩) _ HBI.out.1)).trans NBI.out
        have on : One wT b (.int .i64 ((c + 1 : Nat) : Int)) 75 := by rw [hwT]; exact ((heap_setCell_other (p := ⟨bi, 3, none⟩) _ HBI.out.2.1).trans (heap_setCell_other (p := ⟨bi, 2, none⟩) _ HBI.out.2.1)).trans ONI.out
        have xt : ExtB b w wT := by rw [hwT]; exact (XI.out.setCell (p := ⟨bi, 2, none⟩) (.inr HBI.out.2.2) _).setCell (p := ⟨bi, 3, none⟩) (.inr HBI.out.2.2) _
        rw [← hwT]
        clear hwT i2 i3 g2 g3
        have n0 := cellOf nb (i := 0) (v := .int .i64 n.tag) rfl
        have n1 := cellOf nb (i := 1) (v := .slice ao n.attrs.length ac) rfl
        have n2 := cellOf nb (i := 2) (v := .string n.text) rfl
        have n3 := cellOf nb (i := 3) (v := .slice ka n.kids.length kc) rfl
        have XT := qh xt
        have ON := qh on
        have IB2 := qh ib
        have NB2 := qh nb
        clear xt on ib nb
        by_cases ht : n.text.size = 0
        · have e3 : (n.text.toList == ([] : List UInt8)) = true := text_none ht
          have HTX := qh ht
          have hx0 : Ext w0 wT := XT.out.ext HX.out HNBB.out
          have HA := qh (AMay_any n.attrs _ wT (HA0.out.cells hx0.cells) HAL.out (HT.out.ext hx0))
          clear ht hx0
          have hm : attrsMay n.attrs = true ∨ attrsMay n.attrs = false := by cases attrsMay n.attrs; exact .inr rfl; exact .inl rfl
          rcases hm with hm | hm
          · rw [hm] at HA
            go_wp2_with (go_at_call 119; refine HA.out.mono ?_)
            rintro e w6 ⟨rfl, x6⟩
            have n0 := x6.cell n0
            have n1 := x6.cell n1
            have n2 := x6.cell n2
            have n3 := x6.cell n3
            have ib6 := x6.block IB2.out
            have v0 := cellOf ib6 (i := 0) (v := .int .i64 (d + 1)) rfl
            have v1 := cellOf ib6 (i := 1) (v := .bool false) rfl
            have v2 := cellOf ib6 (i := 2) (v := .bool true) rfl
            have v3 := cellOf ib6 (i := 3) (v := .bool false) rfl
            have X6 := qh (XT.out.trans (x6.toB b))
            have HK := qh (HKIDS.out b (c + 1) (d + 1) false true false w6 _ HR.out (X6.out.ext HX.out HNBB.out) HNBB.out (ON.out.ext x6) HC1.out (by omega) (by omega))
            have fin6 : ∀ (q : Bool) (u : World) (c' : Nat), (PN.norms (d + 1) false true false false n.kids && decide (c + 1 + PN.sizes n.kids ≤ 2000)) = q → ExtB b w u → One u b (.int .i64 c') 75 → (q = true → c' = c + 1 + PN.sizes n.kids) → Looked b c n.size (n.norm d box false false) w (.returned (.bool q)) u := by
              intro q u c' h1 h2 h3 h4
              refine FIN.out q u c' ?_ h2 h3 (fun h => ?_)
              · rw [HNM.out, HTX.out, hm, HSZ.out, show c + (PN.sizes n.kids + 1) = c + 1 + PN.sizes n.kids by omega]; simpa using h1
              · rw [h4 h, HSZ.out]; omega
            have FIN6 := qh fin6
            clear fin6 hm x6 ib6
            have hq : (PN.norms (d + 1) false true false false n.kids && decide (c + 1 + PN.sizes n.kids ≤ 2000)) = true ∨ (PN.norms (d + 1) false true false false n.kids && decide (c + 1 + PN.sizes n.kids ≤ 2000)) = false := by cases (PN.norms (d + 1) false true false false n.kids && decide (c + 1 + PN.sizes n.kids ≤ 2000)); exact .inr rfl; exact .inl rfl
            obtain ⟨q, hq9⟩ : ∃ q, (PN.norms (d + 1) false true false false n.kids && decide (c + 1 + PN.sizes n.kids ≤ 2000)) = q := ⟨_, rfl⟩
            have HQ9 := qh hq9
            clear hq hq9
            go_wp2_with (go_at_call 35; refine HK.out.mono ?_)
            rintro e w7 ⟨c7, rfl, x7, o7, h7⟩
            have X7 := qh (X6.out.trans x7)
            have O7 := qh o7
            have H7 := qh h7
            rw [HQ9.out]
            clear x7 o7 h7 n0 n1 n2 n3 v0 v1 v2 v3
            go_wp2_with fail
            go_ret
            exact FIN6.out q _ c7 HQ9.out X7.out O7.out (fun h => H7.out (HQ9.out.trans h))
          · rw [hm] at HA
            have hz : (n.norm d box false false && decide (c + n.size ≤ 2000)) = false := by rw [HNM.out, hm]; simp
            have HZ := qh hz
            clear hz hm
            go_wp2_with (go_at_call 119; refine HA.out.mono ?_)
            rintro e w6 ⟨rfl, x6⟩
            have X6 := qh (XT.out.trans (x6.toB b))
            have O6 := qh (ON.out.ext x6)
            clear x6 n0 n1 n2 n3
            go_wp2_with fail
            go_ret
            exact FIN.out _ _ _ HZ.out X6.out O6.out (fun h => by cases h)
        · have e3 : (n.text.toList == ([] : List UInt8)) = false := text_some ht
          have hz : (n.norm d box false false && decide (c + n.size ≤ 2000)) = false := by rw [HNM.out]; simp [ht]
          have HZ := qh hz
          clear hz ht
          go_wp2_with fail
          go_ret
          exact FIN.out _ _ _ HZ.out XT.out ON.out (fun h => by cases h)
end Go.Proofs.YtalaajbajgdglaaGreatDoor
