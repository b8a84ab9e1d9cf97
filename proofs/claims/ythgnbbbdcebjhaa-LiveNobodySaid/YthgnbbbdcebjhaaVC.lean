/- Package live: New, Hold (a new place), is, Held, move, on a tree that New made. Conditions: at most 100000 places are held. -/
import Derived.Test.YthgnbbbdcebjhaaVB
namespace Go.Proofs.Ythgnbbbdcebjhaa
open Go Go.RowKit Go.BigFrame
set_option linter.unusedVariables false
set_option linter.unusedSimpArgs false

theorem TreeAt.tat {w : World} {own : Ow} {ptr : Nat → Nat} {tb : Nat} {T : Tr} (h : TreeAt w own ptr tb T) (hO : Owned own w) : TAt w tb T := ⟨own, ptr, h, hO⟩
/-- New's answer -/
def LNewIs (w : World) (T : Tr) (e : Ending) (w' : World) : Prop := ∃ lb tb own ptr, e = .returned (.tuple #[.pointer (some ⟨lb, 0, none⟩), .int .i64 0]) ∧ LiveAt w' own ptr lb tb T (.slice none 0 0) none [] ∧ Ext w w' ∧ w.heap.size ≤ lb ∧ ∀ b, own b ≠ none → w.heap.size ≤ b
set_option maxHeartbeats 1000000 in
theorem lNew_ok (cap deep : Int) (h1 : 1 ≤ cap) (h2 : cap ≤ 2000) (h3 : 0 ≤ deep) (h4 : deep ≤ 40) (w : World) :
    Calls Try.prog 45 #[.int .i64 cap, .int .i64 deep] w (LNewIs w (hostOf cap deep)) := by
  have HN := Lib.hid (New_ok cap deep h1 h2 h3 h4 w)
  clear h1 h2 h3 h4
  go_enter Try.func45, Try.ntmps45
  go_wp2_with (go_at_call 69; refine HN.out.mono ?_)
  rintro e w1 ⟨tb, own, ptr, rfl, hT, hO, hx1, hf⟩
  have X := (Ext.refl w1).alloc (.cells #[.pointer (some ⟨tb, 0, none⟩), .slice none 0 0] 26)
  have hn := heap_alloc_new w1 (.cells #[.pointer (some ⟨tb, 0, none⟩), .slice none 0 0] 26)
  have HL : Hid (LNewIs w (hostOf cap deep) (.returned (.tuple #[.pointer (some ⟨w1.heap.size, 0, none⟩), .int .i64 0])) (w1.alloc (.cells #[.pointer (some ⟨tb, 0, none⟩), .slice none 0 0] 26))) := Lib.hid ⟨w1.heap.size, tb, own, ptr, rfl,
    ⟨hT.keep (X.keep hO), fun b hb => Nat.lt_of_lt_of_le (hO b hb) X.size, hn, ⟨rfl, .inl ⟨rfl, none, rfl⟩⟩, Decidable.byContradiction fun h => Nat.lt_irrefl _ (hO _ h), fun g hg => by cases hg⟩, hx1.trans X, hx1.size, hf⟩
  clear hT hO hx1 hf X hn
  go_wp2_with fail
  go_ret2
  exact HL.out
/-- is there a place that is none, of these? -/
def FirstOff (H : List Hd) (k : Int) : Prop := (k = -1 ∧ ∀ x ∈ H, x.off ≠ 1) ∨ ∃ (i : Nat) (x : Hd), k = (i : Int) ∧ H[i]? = some x ∧ x.off = 1 ∧ ∀ y ∈ H.take i, y.off ≠ 1
theorem off_any (x : Hd) (w : World) : Calls Try.prog 20 #[.agg #[.int .i64 x.node, .int .i64 x.at', .int .i64 x.off]] w (RBool (x.off == 1) w) := by
  have X := (Ext.refl w).alloc (.cells #[.int .i64 x.node, .int .i64 x.at', .int .i64 x.off] 52)
  go_enter Try.func20, Try.ntmps20
  go_wp2_with fail
  go_ret
  exact ⟨rfl, X⟩
set_option maxHeartbeats 1000000 in
set_option maxRecDepth 100000 in
theorem idxOff_any {w : World} {hv : Value} {hb : Option Nat} {H : List Hd} (hl : H.length ≤ 100000) (hr : RowP w (fun g => hb = some g) 52 3 hv H.length (hcells H)) :
    Calls Try.prog 19 #[hv, .func (.func 20) #[] #[]] w (fun e w' => ∃ k, e = .returned (.int .i64 k) ∧ FirstOff H k ∧ Ext w w') := by
  obtain ⟨a, cap, rfl, hc, hg⟩ : ∃ a cap, hv = .slice a H.length cap ∧ H.length ≤ cap ∧ (0 < H.length → ∃ g cur, a = some ⟨g, 0, none⟩ ∧ w.heap[g]? = some (.cells cur 52 (0, 0)) ∧ cur.toList.take (H.length * 3) = hcells H) := by
    rcases hr.2 with ⟨h0, a, e⟩ | ⟨g, cap, cur, h1, h2, h3, h4, h5, h6, h7⟩
    · exact ⟨a, 0, by rw [e, h0], by omega, fun hp => absurd hp (by omega)⟩
    · exact ⟨some ⟨g, 0, none⟩, cap, h1, h4, fun _ => ⟨g, cur, rfl, h3, h7⟩⟩
  have HG := Lib.hid hg
  obtain ⟨n, hn⟩ : ∃ n, H.length = n := ⟨_, rfl⟩
  have HN := Lib.hid hn
  rw [hn] at hl ⊢
  clear hr hg hn hc
  go_enter Try.func19, Try.ntmps19
  go_wp2_with fail
  go_loopw [5, 8] (fun _ iv wr => ∃ i : Nat, i ≤ n ∧ iv = .int .i64 i ∧ (∀ x ∈ H.take i, x.off ≠ 1) ∧ Ext w wr) (fun _ iv _ => n - (intOf iv).toNat)
  case atStart => exact ⟨0, Nat.zero_le _, rfl, fun x hx => (by rw [List.take_zero] at hx; cases hx), Ext.refl _⟩
  case round =>
    obtain ⟨i, hin, rfl, hno, xr⟩ := hrel
    have HNO := Lib.hid hno
    have XR := Lib.hid xr
    clear hno xr
    by_cases hlt : i < n
    · obtain ⟨x, hx⟩ : ∃ x, H[i]? = some x := ⟨_, List.getElem?_eq_getElem (by rw [HN.out]; exact hlt)⟩
      obtain ⟨g, cur, rfl, hgb, htk⟩ := HG.out (by rw [HN.out]; omega)
      have q0 := XR.out.cell (hold_cell (f := 0) hgb htk hx (v := .int .i64 x.node) rfl)
      have q1 := XR.out.cell (hold_cell (f := 1) hgb htk hx (v := .int .i64 x.at') rfl)
      have q2 := XR.out.cell (hold_cell (f := 2) hgb htk hx (v := .int .i64 x.off) rfl)
      rw [Nat.add_zero] at q0
      have HX := Lib.hid hx
      have HOF := Lib.hid (fun W => off_any x W)
      have e0 : decide ((i : Int) < (n : Int)) = true := decide_eq_true (by omega)
      have e0n : decide (i < n) = true := decide_eq_true hlt
      have i0 : (0 : Int) ≤ (i : Int) := by omega
      have i1 : (i : Int) < (n : Int) := by omega
      have itn : (i : Int).toNat = i := by omega
      clear hgb htk hx
      cases hb1 : (x.off == 1) with
      | true =>
        rw [hb1] at HOF
        have HB := Lib.hid (beq_iff_eq.1 hb1)
        clear hb1
        go_wp2_with (go_at_call 20; refine (HOF.out _).mono ?_)
        rintro e w2 ⟨rfl, x2⟩
        clear q0 q1 q2
        go_wp2_with fail
        go_ret
        exact ⟨i, rfl, .inr ⟨i, x, rfl, HX.out, HB.out, HNO.out⟩, XR.out.trans x2⟩
      | false =>
        rw [hb1] at HOF
        have HB := Lib.hid (beq_eq_false_iff_ne.1 hb1)
        clear hb1
        go_wp2_with (go_at_call 20; refine (HOF.out _).mono ?_)
        rintro e w2 ⟨rfl, x2⟩
        clear q0 q1 q2
        go_wp2_with fail
        go_roundw
        case rel =>
          refine ⟨i + 1, by omega, by go_num, fun y hy => ?_, XR.out.trans x2⟩
          rw [List.take_add_one, HX.out] at hy
          rcases List.mem_append.1 hy with h | h
          · exact HNO.out y h
          · have : y = x := by simpa using h
            rw [this]; exact HB.out
        case measure => simp [intOf]; omega
    · have e0 : decide ((i : Int) < (n : Int)) = false := decide_eq_false (by omega)
      have e0n : decide (i < n) = false := decide_eq_false hlt
      go_wp2_with fail
      go_ret
      exact ⟨-1, rfl, .inl ⟨rfl, fun x hx => HNO.out x (by rw [List.take_of_length_le (by rw [HN.out]; omega)]; exact hx)⟩, XR.out⟩
end Go.Proofs.Ythgnbbbdcebjhaa
