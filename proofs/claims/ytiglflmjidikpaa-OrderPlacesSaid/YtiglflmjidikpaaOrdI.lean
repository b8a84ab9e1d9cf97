/- Package order: the contract of All, a range over a function. No conditions beside a tree's own. -/
import Derived.RangeFuncBox
import Derived.RangeFuncLeaves
import Derived.Shelf.Abstract
import Derived.WalkKit
import Derived.OwnWalkIn
import Derived.TacticsInMore
import Derived.LoopNIn
import Derived.LoopIn
import Derived.Maps.AppendAt
import Derived.Test.YtiglflmjidikpaaOrdH
namespace Go.Proofs.Ytiglflmjidikpaa
open Go Go.RowKit Go.BigFrame Go.Shelf
set_option linter.unusedVariables false
set_option linter.unusedSimpArgs false
attribute [local go_sem] Oper.semAt_some

/-- a tree lies here, below n₀ -/
structure TLow (n₀ : Nat) (w : World) (tb : Nat) (T : Tr) : Prop where
  out : ∃ own ptr, TreeAt w own ptr tb T ∧ ∀ b, own b ≠ none → b < n₀
theorem TLow.below {n₀ : Nat} {w w' : World} {tb : Nat} {T : Tr} (h : TLow n₀ w tb T) (x : Below n₀ w w') : TLow n₀ w' tb T := by
  obtain ⟨own, ptr, hT, hO⟩ := h.out
  exact ⟨own, ptr, hT.keep fun b hb => Below.block x b (hO b hb), hO⟩
theorem TLow.tat {n₀ : Nat} {w : World} {tb : Nat} {T : Tr} (h : TLow n₀ w tb T) (hn : n₀ ≤ w.heap.size) : TAt w tb T := by
  obtain ⟨own, ptr, hT, hO⟩ := h.out
  exact ⟨own, ptr, hT, fun b hb => Nat.lt_of_lt_of_le (hO b hb) hn⟩
theorem TAt.low {w : World} {tb : Nat} {T : Tr} (h : TAt w tb T) : TLow w.heap.size w tb T := by
  obtain ⟨own, ptr, hT, hO⟩ := h.out
  exact ⟨own, ptr, hT, hO⟩
theorem Ext.grownBy {w w' : World} (x : Ext w w') : w.grownBy w' none := ⟨x.os, x.tape, x.output, x.size, fun k hk _ => Below.block x k hk⟩
theorem abides_ext {β : Type} {B : Nat} {J : β → World → Prop} (h : AbidesFrom B J) {s : β} {w w' : World} (hs : J s w) (x : Ext w w') : J s w' := h s w w' none hs x.grownBy fun r e => by cases e
/-- what a round keeps: what lay below n₀, and the two boxes -/
def KpB (n₀ Bt Bi : Nat) (w w' : World) : Prop := Below n₀ w w' ∧ ∀ b, b = Bt ∨ b = Bi → b < w.heap.size → w'.heap[b]? = w.heap[b]?
theorem KpB.trans {n₀ Bt Bi : Nat} {a b c : World} (h : KpB n₀ Bt Bi a b) (k : KpB n₀ Bt Bi b c) : KpB n₀ Bt Bi a c :=
  ⟨h.1.trans k.1, fun x hx hl => (k.2 x hx (Nat.lt_of_lt_of_le hl (Below.size h.1))).trans (h.2 x hx hl)⟩
theorem KpB.cell {n₀ Bt Bi : Nat} {a b : World} (h : KpB n₀ Bt Bi a b) {x : Nat} (hx : x = Bt ∨ x = Bi) {v : Value} (hc : a.cell? ⟨x, 0, none⟩ = some v) : b.cell? ⟨x, 0, none⟩ = some v :=
  (World.cell?_of_block (a := ⟨x, 0, none⟩) (h.2 x hx (cell_lt hc))).trans hc
theorem idx_at {L : List Int} (hn : L.Nodup) {k : Nat} {x : Int} (h : L[k]? = some x) : L.idxOf x = k := by
  have h1 := nodup_pos hn h
  have h2 := (posOf_mem (List.mem_of_getElem? h)).1
  rw [h1] at h2
  omega
set_option maxRecDepth 100000 in
set_option maxHeartbeats 4000000 in
theorem within1_in {tb : Nat} {T : Tr} {d : Nat → Nat} (hw : WF T d) (id : Int) (n : Nat) (hn : 1 ≤ n) (l Bt Bi n₀ : Nat) (J Jx : List Int → World → Prop)
    (hY : ∀ pre x W, J pre W → pre.length < (T.allOf id).length → YieldAt Fence.wide (n - 1) Try.prog l #[.int .i64 x] W fun e W' =>
      (e = .returned (.bool true) ∧ J (pre ++ [x]) W' ∧ KpB n₀ Bt Bi W W') ∨ (e = .returned (.bool false) ∧ Jx (pre ++ [x]) W'))
    (W : World) (hJ : AbidesFrom W.heap.size J) (hct : W.cell? ⟨Bt, 0, none⟩ = some (.pointer (some ⟨tb, 0, none⟩))) (hci : W.cell? ⟨Bi, 0, none⟩ = some (.int .i64 id)) (hn0 : n₀ ≤ W.heap.size) (hL : TLow n₀ W tb T) (h0 : J [] W) :
    CallsIn Fence.wide n Try.prog 135 #[.func (.yield l) #[] #[], .pointer (some ⟨Bt, 0, none⟩), .pointer (some ⟨Bi, 0, none⟩)] W fun e W' => (∃ v, e = .returned v) ∧
      ((∃ ys, ys = T.allOf id ∧ J ys W') ∨ (∃ pre, pre <+: T.allOf id ∧ Jx pre W')) := by
  have HL := Lib.hid hL
  have HJ := Lib.hid hJ
  have HY := Lib.hid hY
  have H0 := Lib.hid h0
  clear hL hJ hY h0
  cases hg : T.get? id with
  | none =>
    have HE := Lib.hid (show T.allOf id = [] by unfold Tr.allOf; rw [hg])
    have HG := Lib.hid hg
    clear hg
    refine callsIn_of_wp Try.func135 rfl trivial ?_ rfl
    simp only [Try.ntmps135, List.size_toArray, List.length_cons, List.length_nil, Nat.reduceAdd, Nat.reduceSub, Array.replicate_succ, Array.replicate_zero, List.push_toArray, List.append_toArray, List.nil_append, List.cons_append]
    gi_wp2_with (refine ⟨trivial, ?_⟩; gi_at_call 27; refine (callsIn_wide.2 (at_has_no (HL.out.tat hn0) HG.out)).mono ?_; rintro e w2 ⟨rfl, hx2⟩)
    refine bodyPost_ret (results_none rfl _ _ _) rfl ?_
    exact ⟨⟨_, rfl⟩, .inl ⟨[], HE.out.symm, abides_ext HJ.out H0.out hx2⟩⟩
  | some nd =>
    obtain ⟨L, hLd⟩ : ∃ L, T.allOf id = L := ⟨_, rfl⟩
    have hpre : T.allOf id = T.pre id := by unfold Tr.allOf; rw [hg]
    rw [hLd] at hpre
    obtain ⟨z, hz⟩ : ∃ z, T.behind id = z := ⟨_, rfl⟩
    have hch : ∀ (i : Nat) (x : Int), L[i]? = some x → T.next x = (L[i + 1]?).getD z := by rw [hpre, ← hz]; exact hw.chain id
    have hin : ∀ x ∈ L, 0 ≤ x ∧ x ≠ z := fun x hx => by
      rw [hpre] at hx
      exact ⟨get_nonneg (hw.pre_in id ⟨nd, hg⟩ x hx).1, by rw [← hz]; exact hw.pre_not ⟨nd, hg⟩ hx⟩
    have hnd : L.Nodup := by rw [hpre]; exact hw.pre_nodup ⟨nd, hg⟩
    have hhd : L[0]? = some id := by rw [hpre, ← List.head?_eq_getElem?]; exact hw.pre_head id
    have HZ := Lib.hid hz
    have HG := Lib.hid hg
    have HCH := Lib.hid hch
    have HIN := Lib.hid hin
    have HND := Lib.hid hnd
    have HHD := Lib.hid hhd
    have HLD := Lib.hid hLd
    rw [hLd] at HY ⊢
    clear hg hLd hpre hz hch hin hnd hhd
    have HBH := Lib.hid (show ∀ u, TAt u tb T → Calls Try.prog 58 #[.pointer (some ⟨tb, 0, none⟩), .int .i64 id] u (RVal (.int .i64 z) u) from fun u h => HZ.out ▸ Behind_any h hw id)
    refine callsIn_of_wp Try.func135 rfl trivial ?_ rfl
    simp only [Try.ntmps135, List.size_toArray, List.length_cons, List.length_nil, Nat.reduceAdd, Nat.reduceSub, Array.replicate_succ, Array.replicate_zero, List.push_toArray, List.append_toArray, List.nil_append, List.cons_append]
    gi_wp2_with (first
      | (refine ⟨trivial, ?_⟩; gi_at_call 27; refine (callsIn_wide.2 (at_has_yes (HL.out.tat hn0) HG.out)).mono ?_; rintro e w2 ⟨rfl, hx2⟩; have hct2 := hx2.cell hct; have hci2 := hx2.cell hci)
      | (refine ⟨trivial, ?_⟩; gi_at_call 58; refine (callsIn_wide.2 (HBH.out _ ((HL.out.tat hn0).ext hx2))).mono ?_; rintro e w3 ⟨rfl, hx3⟩; have hct3 := hx3.cell hct2; have hci3 := hx3.cell hci2))
    have hx := hx2.trans hx3
    have HX := Lib.hid hx
    have H3 := Lib.hid (And.intro hct3 hci3)
    have HJ3 := Lib.hid (abides_ext HJ.out H0.out hx)
    clear hx2 hx3 hx hct hci hct2 hci2 hct3 hci3
    gi_loopw [5] (fun s wr => ∃ k : Nat, k ≤ L.length ∧ s = .int .i64 ((L[k]?).getD z) ∧ Hid (J (L.take k) wr ∧ TLow n₀ wr tb T ∧ n₀ ≤ wr.heap.size) ∧ wr.cell? ⟨Bt, 0, none⟩ = some (.pointer (some ⟨tb, 0, none⟩)) ∧ wr.cell? ⟨Bi, 0, none⟩ = some (.int .i64 id))
      (fun s wr => L.length - L.idxOf (intOf s))
    case atStart => exact ⟨0, Nat.zero_le _, by rw [HHD.out]; rfl, Lib.hid ⟨HJ3.out, HL.out.below (Below.mono HX.out hn0), Nat.le_trans hn0 HX.out.size⟩, H3.out.1, H3.out.2⟩
    case round =>
      obtain ⟨k, hk, rfl, hrest, hct, hci⟩ := hrel
      by_cases hlt : k < L.length
      · obtain ⟨x, hxk⟩ : ∃ x, L[k]? = some x := ⟨L[k], by simp [hlt]⟩
        obtain ⟨hx0, hxz⟩ := HIN.out x (List.mem_of_getElem? hxk)
        obtain ⟨nx, hnx⟩ : ∃ nx, (L[k + 1]?).getD z = nx := ⟨_, rfl⟩
        have hnext := HCH.out k x hxk
        rw [hnx] at hnext
        have HNX := Lib.hid hnx
        have HXK := Lib.hid hxk
        have HNT := Lib.hid (show ∀ u, TAt u tb T → Calls Try.prog 56 #[.pointer (some ⟨tb, 0, none⟩), .int .i64 x] u (RVal (.int .i64 nx) u) from fun u h => hnext ▸ Next_any h hw x)
        have hzx : (x != z) = true := by simpa using hxz
        obtain ⟨fn, tmps, assign, body, hy, hR⟩ := HY.out (L.take k) x wr hrest.out.1 (by rw [List.length_take]; omega)
        have htk : L.take k ++ [x] = L.take (k + 1) := by
          obtain ⟨_, e⟩ := List.getElem?_eq_some_iff.1 hxk
          rw [List.take_succ_eq_append_getElem hlt, e]
        rw [htk] at hR
        rw [hxk]
        have HTK := Lib.hid htk
        clear hnx hnext hxk htk
        simp only [Option.getD_some]
        have HMS := Lib.hid (show L.length - L.idxOf nx < L.length - L.idxOf x by
          rw [idx_at HND.out HXK.out]
          have h1 := HNX.out
          cases hk1 : L[k + 1]? with
          | some y =>
            rw [hk1] at h1
            have h2 : y = nx := h1
            subst h2
            rw [idx_at HND.out hk1]; omega
          | none =>
            rw [hk1] at h1
            have h2 : z = nx := h1
            subst h2
            rw [List.idxOf_eq_length (fun hm => (HIN.out z hm).2 rfl)]; omega)
        gi_wp2
        refine hR.mono ?_
        rintro e W3 (⟨rfl, hJ4, hk3⟩ | ⟨rfl, hJx3⟩)
        · have hct3 : W3.cell? ⟨Bt, 0, none⟩ = some (.pointer (some ⟨tb, 0, none⟩)) := hk3.cell (.inl rfl) hct
          have hci3 : W3.cell? ⟨Bi, 0, none⟩ = some (.int .i64 id) := hk3.cell (.inr rfl) hci
          have hlow := hrest.out.2.1.below hk3.1
          have hsz : n₀ ≤ W3.heap.size := Nat.le_trans hrest.out.2.2 (Below.size hk3.1)
          have HLW := Lib.hid (And.intro hlow hsz)
          have HJ4 := Lib.hid hJ4
          clear hlow hsz hk3 hJ4 hct hci
          gi_wp2_with (refine ⟨trivial, ?_⟩; gi_at_call 56; refine (callsIn_wide.2 (HNT.out _ (HLW.out.1.tat HLW.out.2))).mono ?_; rintro e w5 ⟨rfl, hx5⟩)
          go_roundw
          case rel =>
            have hs5 := hx5.size
            exact ⟨k + 1, by omega, by rw [HNX.out], Lib.hid ⟨abides_ext HJ.out HJ4.out hx5, HLW.out.1.below (Below.mono hx5 HLW.out.2), Nat.le_trans HLW.out.2 hs5⟩, hx5.cell hct3, hx5.cell hci3⟩
          case measure => simp only [intOf]; exact HMS.out
        · gi_wp2
          refine bodyPost_ret (results_none rfl _ _ _) rfl ?_
          exact ⟨⟨_, rfl⟩, .inr ⟨L.take (k + 1), List.take_prefix _ _, hJx3⟩⟩
      · obtain rfl : k = L.length := by omega
        have hnone : L[L.length]? = none := List.getElem?_eq_none (Nat.le_refl _)
        rw [hnone]
        simp only [Option.getD_none]
        have HJE := Lib.hid (show J L wr by have := hrest.out.1; rw [List.take_length] at this; exact this)
        clear hnone
        by_cases hz0 : 0 ≤ z
        · gi_wp2
          go_end0
          first | exact ⟨⟨_, rfl⟩, .inl ⟨L, rfl, HJE.out⟩⟩ | exact ⟨⟨_, rfl⟩, .inl HJE.out⟩
        · gi_wp2
          go_end0
          first | exact ⟨⟨_, rfl⟩, .inl ⟨L, rfl, HJE.out⟩⟩ | exact ⟨⟨_, rfl⟩, .inl HJE.out⟩
theorem within_any' (tb : Nat) (id : Int) (w : World) : Calls Try.prog 117 #[.pointer (some ⟨tb, 0, none⟩), .int .i64 id] w fun e w' => e = .returned (.func (.func 135) #[] #[.pointer (some ⟨w.heap.size, 0, none⟩), .pointer (some ⟨w.heap.size + 1, 0, none⟩)]) ∧ w' = (w.alloc (.cells #[.pointer (some ⟨tb, 0, none⟩)] 25)).alloc (.cells #[.int .i64 id] 3) := by
  go_enter Try.func117, Try.ntmps117
  go_wp2_with fail
  go_ret
  exact ⟨rfl, rfl⟩
theorem within_stops {tb : Nat} {T : Tr} {d : Nat → Nat} (hw : WF T d) (id : Int) (n : Nat) (hn : 1 ≤ n) (Bt Bi n₀ : Nat) (w : World) (hct : w.cell? ⟨Bt, 0, none⟩ = some (.pointer (some ⟨tb, 0, none⟩))) (hci : w.cell? ⟨Bi, 0, none⟩ = some (.int .i64 id)) (hn0 : n₀ ≤ w.heap.size) (hL : TLow n₀ w tb T) :
    SeqStopsK Fence.wide n Try.prog 135 #[.pointer (some ⟨Bt, 0, none⟩), .pointer (some ⟨Bi, 0, none⟩)] (fun x : Int => #[Value.int .i64 x]) (KpB n₀ Bt Bi) (fun ys => ys = T.allOf id) (fun pre => pre <+: T.allOf id) (T.allOf id).length w := fun l J Jx W hW hJ _ hY h0 =>
  within1_in hw id n hn l Bt Bi n₀ J Jx hY W hJ ((hW.cell (p := ⟨Bt, 0, none⟩) (cell_lt hct)).trans hct) ((hW.cell (p := ⟨Bi, 0, none⟩) (cell_lt hci)).trans hci) (Nat.le_trans hn0 hW.size) (hL.below (hW.mono hn0)) h0
theorem ownsRow_less {W : World} {base base' : Nat} {e : TypeId} {size : Nat} {v : Value} {k : Nat} {xs : List Value} (h : W.ownsRow base e size v k xs) (hb : base' ≤ base) : W.ownsRow base' e size v k xs := by
  obtain ⟨h1, h2 | ⟨g, cap, cur, h2, h3, h4⟩⟩ := h
  · exact ⟨h1, .inl h2⟩
  · exact ⟨h1, .inr ⟨g, cap, cur, h2, Nat.le_trans hb h3, h4⟩⟩
theorem ownsRow_base {W : World} {base : Nat} {e : TypeId} {size : Nat} {v : Value} {k : Nat} {xs : List Value} (h : W.ownsRow base e size v k xs) : ∀ y, v.ownBlock = some y → base ≤ y := by
  obtain ⟨h1, h2 | ⟨g, cap, cur, rfl, h3, h4⟩⟩ := h
  · intro y hy; rw [h2.1] at hy; cases hy
  · intro y hy; cases hy; exact h3
theorem allOf_2000 {T : Tr} {d : Nat → Nat} (hw : WF T d) (id : Int) : (T.allOf id).length ≤ 2000 := by
  unfold Tr.allOf
  cases hg : T.get? id with
  | none => simp
  | some nd => exact hw.pre_2000 ⟨nd, hg⟩
set_option maxRecDepth 100000 in
set_option maxHeartbeats 4000000 in
/-- all within, in new memory -/
theorem All_any {w : World} {tb : Nat} {T : Tr} (hT : TAt w tb T) {d : Nat → Nat} (hw : WF T d) (id : Int) : Calls Try.prog 59 #[.pointer (some ⟨tb, 0, none⟩), .int .i64 id] w (RRow 3 1 (T.allOf id).length ((T.allOf id).map (Value.int .i64)) w) := by
  obtain ⟨L, hL⟩ : ∃ L, T.allOf id = L := ⟨_, rfl⟩
  have hlen := allOf_2000 hw id
  rw [hL] at hlen
  obtain ⟨i0, hi, hz0, hz1, hz2⟩ := info_parts infoI
  have HL := Lib.hid hL
  rw [hL]
  clear hL
  refine (callsIn_wide (n := 5)).1 ?_
  refine callsIn_of_wp_marks Try.func59 rfl trivial ?_ rfl
  simp only [Try.ntmps59, List.size_toArray, List.length_cons, List.length_nil, Nat.reduceAdd, Nat.reduceSub, Array.replicate_succ, Array.replicate_zero, List.push_toArray, List.append_toArray, List.nil_append, List.cons_append]
  gi_wp2_with (refine ⟨trivial, ?_⟩; gi_at_call 117; refine (callsIn_wide.2 (within_any' tb id _)).mono ?_; rintro e w2 ⟨rfl, rfl⟩)
  have bO := Boxed.new w 70 (.slice none 0 0)
  have bN := Boxed.new (w.alloc (.cells #[.slice none 0 0] 70)) 25 (.pointer (some ⟨tb, 0, none⟩))
  have bI := Boxed.new ((w.alloc (.cells #[.slice none 0 0] 70)).alloc (.cells #[.pointer (some ⟨tb, 0, none⟩)] 25)) 3 (.int .i64 id)
  rw [show (w.alloc (.cells #[.slice none 0 0] 70)).heap.size = w.heap.size + 1 by simp] at bN
  rw [show ((w.alloc (.cells #[.slice none 0 0] 70)).alloc (.cells #[.pointer (some ⟨tb, 0, none⟩)] 25)).heap.size = w.heap.size + 1 + 1 by simp] at bI
  have hB0 : Below w.heap.size w (((w.alloc (.cells #[.slice none 0 0] 70)).alloc (.cells #[.pointer (some ⟨tb, 0, none⟩)] 25)).alloc (.cells #[.int .i64 id] 3)) := (((Below.refl _ w).alloc (Nat.le_refl _) _).alloc (by simp) _).alloc (by simp; omega) _
  have hLow := hT.low.below hB0
  rw [← HL.out]
  refine wpIn_rangeFunc_ownG rfl (by omega) (gf := 135) (lb := #[.pointer (some ⟨w.heap.size + 1, 0, none⟩), .pointer (some ⟨w.heap.size + 1 + 1, 0, none⟩)]) rfl trivial (enters_of Try.func135 (by kernel_rfl) rfl)
    (within_stops hw id 4 (by omega) (w.heap.size + 1) (w.heap.size + 1 + 1) w.heap.size _ (bN.alloc _).cell bI.cell (by simp; omega) hLow) ?hKt ?hKb (Below.refl _ _) (fun _ => rfl)
    (fun pre W => (∃ v, Boxed W w.heap.size 70 v ∧ W.ownsRow (w.heap.size + 3) 3 1 v pre.length (pre.map (Value.int .i64)) ∧ True) ∧ Below w.heap.size (((w.alloc (.cells #[.slice none 0 0] 70)).alloc (.cells #[.pointer (some ⟨tb, 0, none⟩)] 25)).alloc (.cells #[.int .i64 id] 3)) W)
    (fun _ _ _ => False)
    (OwnFrom.and (Own.from (holdsRow_own (w.heap.size + 3) w.heap.size 70 3 1 (fun pre : List Int => pre.length) (fun pre : List Int => pre.map (Value.int .i64)) (fun (_ : List Int) _ => True)) _) (ownFrom_below (by simp; omega) (by simp; omega)))
    (fun _ _ _ _ _ hs _ _ => hs)
    ⟨⟨_, (bO.alloc _).alloc _, World.ownsRow_nil _ _ _ _, trivial⟩, Below.refl _ _⟩
    (fun x => { tmps := #[.pointer (some ⟨tb, 0, none⟩), .int .i64 id, undef, undef, .slice none 0 0, .pointer (some ⟨w.heap.size, 0, none⟩), .int .i64 x, .pointer (some ⟨tb, 0, none⟩), .int .i64 id, .func (.func 135) #[] #[.pointer (some ⟨w.heap.size + 1, 0, none⟩), .pointer (some ⟨w.heap.size + 1 + 1, 0, none⟩)], .int .i64 x, undef, undef, undef, undef, undef], defers := [] }) ?assign ?body ?done ?stop
  case hKt => exact fun h k => h.trans k
  case hKb =>
    intro W l o o' hl ho hc hwk
    refine ⟨belowK_b (w := ((w.alloc (.cells #[.slice none 0 0] 70)).alloc (.cells #[.pointer (some ⟨tb, 0, none⟩)] 25)).alloc (.cells #[.int .i64 id] 3)) (by simp; omega) W l o o' hl ho hc hwk, fun b hb hlt => ?_⟩
    simp at hl
    have hne : l ≠ b := by omega
    simp [World.putObj, Array.getElem?_setIfInBounds, hne]
  case assign =>
    intro l x W K hK
    gi_wp2
    exact hK
  case body =>
    rintro l pre x W ⟨⟨v, hv, hrow, _⟩, hB⟩ hlt
    have hc := hv.cell
    have hsz : w.heap.size + 3 ≤ W.heap.size := by have := hB.size; simp at this; omega
    have hrow0 : W.ownsRow w.heap.size 3 1 v pre.length (pre.map (Value.int .i64)) := ownsRow_less hrow (by omega)
    have hob : ∀ y, v.ownBlock = some y → w.heap.size + 3 ≤ y := ownsRow_base hrow
    rw [HL.out] at hlt
    have HOB := Lib.hid hob
    have HR0 := Lib.hid hrow0
    clear hrow0 hob
    gi_wp2_with (gi_at_builtin; refine wpListIn_append_own _ rfl _ _ 70 rfl (w.heap.size + 3) 3 i0 (.int .i64 0) 1 8 Try.underlying70 hi hz0 hz1 hz2 rfl (by decide) _ _ _ rfl (hrow.alloc _) ⟨W.heap.size, 0, none⟩ 1 1 [.int .i64 x] rfl rfl (cell_one_new _ _ _) (by simp [Value.oneCell']) (by unfold maxLen; omega) (by omega) (by simp; omega) ?_; intro v' w1 hown' hgrow _; obtain ⟨g', cap', rfl⟩ := ownsRow_succ hown'; obtain ⟨hv1, hv2, hr2, hk2, hb2⟩ := hv.appended (by decide) HR0.out (by omega) (Nat.le_refl _) (ownsRow_less hown' (by omega)) hgrow; have hc1 := hv1.cell; have hf1 := hv1.frozen)
    refine ⟨hk2.from _, ⟨hb2, fun b hb hlt' => ?_⟩, ⟨_, hv2, by simpa using hown'.kept (grownBy_setCell' w1 w.heap.size _) (.inr (hv1.not_row (by decide) hown').symm), trivial⟩, hB.trans hb2⟩
    rw [heap_setCell_other (p := ⟨w.heap.size, 0, none⟩) _ (show b ≠ w.heap.size by omega)]
    refine (hgrow.block b (by simp; omega) fun e => ?_).trans (Below.heap_alloc _ _ _ hlt')
    have h9 : v.ownBlock = some b := e.symm
    have := HOB.out b h9
    omega
  case done =>
    rintro D ys W hD rfl ⟨⟨v, hv, hrow, _⟩, hB⟩ hK
    have hc := hv.cell
    gi_wp2
    refine ⟨by simp, .inl ⟨_, _, rfl, run_takeDeferred hK, ?_⟩⟩
    have hrow' := ownsRow_putObj (ownsRow_less hrow (show w.heap.size ≤ w.heap.size + 3 by omega)) (.deferred none) hK rfl
    rw [HL.out] at hrow'
    exact ⟨_, results_tmp rfl _ _ _, v, rfl, RowP.of_owns hrow', (hB0.trans hB).trans (belowK_b (w := w) (Nat.le_refl _) W D _ _ (by simp at hD; omega) hK rfl rfl)⟩
  case stop =>
    rintro D c pre W _ _ h _
    exact h.elim
end Go.Proofs.Ytiglflmjidikpaa
