/- Package dom: Drop, whole. -/
import Derived.Test.YtiglflmjidikpaaDomW
import Derived.Laws.EntriesVeiled
namespace Go.Proofs.Ytiglflmjidikpaa
open Go Go.RowKit Go.BigFrame
set_option linter.unusedVariables false
set_option linter.unusedSimpArgs false

set_option maxRecDepth 100000 in
set_option maxHeartbeats 1000000 in
theorem Drop_none {w : World} {own : Ow} {ptr : Nat → Nat} {tb : Nat} {T : Tr} (hT : TreeAt w own ptr tb T) (hO : Owned own w) {id : Int} (h : T.get? id = none) :
    Calls Try.prog 25 #[.pointer (some ⟨tb, 0, none⟩), .int .i64 id] w (RVal (.int .i64 2) w) := by
  have H := Lib.hid h
  have HT := Lib.hid (hT.keep (((Ext.refl w).alloc (.cells #[.pointer (some ⟨tb, 0, none⟩)] 25)).keep hO))
  clear h hT
  go_enter Try.func25, Try.ntmps25
  go_wp2_with (go_at_call 80; refine (get_none HT.out H.out).mono ?_; rintro e w' ⟨rfl, rfl⟩)
  go_ret
  exact ⟨rfl, (Ext.refl _).alloc _⟩
set_option maxRecDepth 100000 in
set_option maxHeartbeats 1000000 in
theorem Drop_arg {w : World} {own : Ow} {ptr : Nat → Nat} {tb : Nat} {T : Tr} (hT : TreeAt w own ptr tb T) (hO : Owned own w) {id : Int} {nd : Nd} (h : T.get? id = some nd) (ha : id = 0 ∨ 0 ≤ nd.parent) :
    Calls Try.prog 25 #[.pointer (some ⟨tb, 0, none⟩), .int .i64 id] w (RVal (.int .i64 1) w) := by
  have x1 := (Ext.refl w).alloc (.cells #[.pointer (some ⟨tb, 0, none⟩)] 25)
  have H := Lib.hid h
  have hT1 := hT.keep (x1.keep hO)
  have hn := (Tr.get_lt h).2.2
  obtain ⟨av, kv, hb, _⟩ := hT1.node _ _ hn
  have c := cellOf hb (i := 4) (v := .int .i64 nd.parent) rfl
  have HT := Lib.hid hT1
  clear h hT hT1 hn hb
  by_cases h0 : id = 0
  · have b0 : (id == 0) = true := by simp [h0]
    clear ha h0
    go_enter Try.func25, Try.ntmps25
    go_wp2_with (go_at_call 80; refine (get_some HT.out H.out).mono ?_; rintro e w' ⟨rfl, rfl⟩)
    go_ret
    exact ⟨rfl, x1⟩
  · have b0 : (id == 0) = false := by simpa using h0
    have h1 : 0 ≤ nd.parent := by rcases ha with h | h; exact absurd h h0; exact h
    clear ha h0
    go_enter Try.func25, Try.ntmps25
    go_wp2_with (go_at_call 80; refine (get_some HT.out H.out).mono ?_; rintro e w' ⟨rfl, rfl⟩)
    go_ret
    exact ⟨rfl, x1⟩
set_option maxRecDepth 100000 in
set_option maxHeartbeats 2000000 in
theorem Drop_ok {w : World} {own : Ow} {ptr : Nat → Nat} {tb : Nat} {T : Tr} (hT : TreeAt w own ptr tb T) (hO : Owned own w) {d : Nat → Nat} (hw : WF T d) {i : Nat} {nd : Nd} (hi : T.nodes[i]? = some (some nd)) (h0 : i ≠ 0) (hp : nd.parent = -1) :
    Calls Try.prog 25 #[.pointer (some ⟨tb, 0, none⟩), .int .i64 i] w (ErrAfter own w tb 0 (T.rid fun j => T.within j i)) := by
  have x1 := (Ext.refl w).alloc (.cells #[.pointer (some ⟨tb, 0, none⟩)] 25)
  have x2 : Ext w ((w.alloc (.cells #[.pointer (some ⟨tb, 0, none⟩)] 25)).alloc (.cells #[dropF w.heap.size (w.heap.size + 1)] 126)) := x1.alloc _
  have hT1 := hT.keep (x1.keep hO)
  obtain ⟨av, kv, hb, _⟩ := hT1.node _ _ hi
  have c := cellOf hb (i := 4) (v := .int .i64 (-1)) (by rw [← hp]; rfl)
  have hT2 := hT.keep (x2.keep hO)
  rw [← Tr.rid_none hw.count] at hT2
  have hO2 : Owned own ((w.alloc (.cells #[.pointer (some ⟨tb, 0, none⟩)] 25)).alloc (.cells #[dropF w.heap.size (w.heap.size + 1)] 126)) := fun b hb => Nat.lt_of_lt_of_le (hO b hb) x2.size
  have htc : own w.heap.size = none := by
    cases ho : own w.heap.size with
    | none => rfl
    | some x => have := hO w.heap.size (by simp [ho]); omega
  have hdc : own (w.heap.size + 1) = none := by
    cases ho : own (w.heap.size + 1) with
    | none => rfl
    | some x => have := hO (w.heap.size + 1) (by simp [ho]); omega
  have hd := drop_fuel hw htc hdc 50 i nd (fun _ => false) _ hi (by omega) (fun _ _ _ _ => rfl) hT2 hO2 (by simp [go_sem]) (by simp [go_sem])
  have hib : ((i : Int) == 0) = false := by simp; omega
  have H := Lib.hid (Tr.get_of hi)
  have HT1 := Lib.hid hT1
  have HD := Lib.hid hd
  have HX := Lib.hid x2
  have HO := Lib.hid hO
  have e : (T.rid fun j => T.within j i || false) = T.rid fun j => T.within j i := by simp
  have HE := Lib.hid e
  clear hT hO hw hi h0 hp x1 x2 hT1 hb hT2 hO2 htc hdc hd e
  go_enter Try.func25, Try.ntmps25
  go_wp2_with (first
    | (go_at_call 80; refine (get_some HT1.out H.out).mono ?_; rintro e w' ⟨rfl, rfl⟩)
    | (go_at_call 88; refine HD.out.mono ?_; rintro e w' ⟨rfl, hT', htop⟩))
  go_ret
  rw [HE.out] at hT'
  have hs := HX.out.step HO.out
  exact ⟨rfl, own, ptr, hT', hs.trans (htop.step hs.owned)⟩
end Go.Proofs.Ytiglflmjidikpaa
