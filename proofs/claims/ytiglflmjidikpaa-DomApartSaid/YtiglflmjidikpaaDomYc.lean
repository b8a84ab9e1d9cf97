/- Package dom: measure, whole. -/
import Derived.Test.YtiglflmjidikpaaDomYb
import Derived.BigRegion
import Derived.RegionTactic
import Derived.ChangeAlike
namespace Go.Proofs.Ytiglflmjidikpaa
open Go Go.RowKit Go.BigFrame
set_option linter.unusedVariables false
set_option linter.unusedSimpArgs false

theorem One.at (w : World) (b : Nat) (v : Value) (t : TypeId) (hb : b = w.heap.size) : One (w.alloc (.cells #[v] t)) b v t := by subst hb; exact One.new w v t
def RThree (a b c : Value) (w : World) (e : Ending) (w' : World) : Prop := e = .returned (.tuple #[a, b, c]) ∧ Ext w w'
abbrev lookF (b : Nat) : Value := .func (.func 124) #[] #[.pointer (some ⟨b + 1, 0, none⟩), .pointer (some ⟨b + 2, 0, none⟩), .pointer (some ⟨b + 3, 0, none⟩), .pointer (some ⟨b + 4, 0, none⟩)]
set_option maxRecDepth 100000 in
set_option maxHeartbeats 4000000 in
theorem measure_any {w : World} {n : PN} {nv : Value} (hr : RdN w n nv) (hsh : n.short = true) (hs : n.size ≤ 90000) :
    Calls Try.prog 91 #[nv] w (RThree (.int .i64 n.size) (.int .i64 n.high) (.int .i64 (PN.look 0 ⟨0, 0, 0⟩ n).e) w) := by
  obtain ⟨av, kv, rfl, ha, hk⟩ := hr.open
  obtain ⟨aa, acap, rfl, hac⟩ := ha.len_of
  obtain ⟨ka, kcap, rfl, hkc, hkm, hkn, hkr⟩ := hk
  have hz := fun x : World => (show Ext w x → Held4 x (w.heap.size + 1) (w.heap.size + 2) (w.heap.size + 3) (w.heap.size + 4) ⟨0, 0, 0⟩ → Calls Try.prog 124 #[.agg #[.int .i64 n.tag, .slice aa n.attrs.length acap, .string n.text, .slice ka n.kids.length kcap], .int .i64 0, .pointer (some ⟨w.heap.size + 1, 0, none⟩), .pointer (some ⟨w.heap.size + 2, 0, none⟩), .pointer (some ⟨w.heap.size + 3, 0, none⟩), .pointer (some ⟨w.heap.size + 4, 0, none⟩)] x (LookIs w (w.heap.size + 1) (w.heap.size + 2) (w.heap.size + 3) (w.heap.size + 4) (PN.look 0 ⟨0, 0, 0⟩ n)) from
    look_any (by omega) (by omega) (by omega) (by omega) (by omega) (by omega) (by omega) (by omega) (by omega) (by omega) n hsh _ 0 ⟨0, 0, 0⟩ x hr (Int.le_refl 0) (by omega) (Int.le_refl 0) (by show (0 : Int) + n.size ≤ 100000; omega) (Int.le_refl 0) (by decide) (Int.le_refl 0) (by decide))
  have hl := look_spec n 0 ⟨0, 0, 0⟩
  have HZ := Lib.hid hz
  have HL := Lib.hid hl
  clear hz hl hkr hkn ha hr
  go_enter Try.func91, Try.ntmps91
  go_wp2_with fail
  refine (HZ.out _ ?_ ?_).mono ?_
  · exact ((((((Ext.refl w).alloc _).alloc _).alloc _).alloc _).alloc _)
  · exact ⟨(((One.at (w.alloc _) _ (.int .i64 0) 3 (by simp)).alloc _).alloc _).alloc _, ((One.at ((w.alloc _).alloc _) _ (.int .i64 0) 3 (by simp)).alloc _).alloc _, (One.at (((w.alloc _).alloc _).alloc _) _ (.int .i64 0) 36 (by simp)).alloc _,
      One.at ((((w.alloc _).alloc _).alloc _).alloc _) _ (lookF w.heap.size) 146 (by simp)⟩
  rintro e w1 ⟨rfl, hx, hh⟩
  obtain ⟨l1, l2, l3⟩ := HL.out
  have q1 : (PN.look 0 ⟨0, 0, 0⟩ n).count = (n.size : Int) := by rw [l1]; simp
  have q2 : (PN.look 0 ⟨0, 0, 0⟩ n).height = (n.high : Int) := by rw [l2]; show max (0 : Int) (0 + (n.high : Int)) = _; omega
  obtain ⟨hc, hh', he, hf⟩ := hh
  rw [q1] at hc
  rw [q2] at hh'
  have cc := hc.cell
  have ch := hh'.cell
  have ce := he.cell
  have fc := hc.free
  have fh := hh'.free
  have fe := he.free
  clear l1 l2 l3 q1 q2 HL hc hh' he hf HZ
  generalize (PN.look 0 ⟨0, 0, 0⟩ n).e = E at *
  go_wp2_with fail
  go_region
  go_wp2
  refine bodyPost_ret (v := .tuple #[.int .i64 n.size, .int .i64 n.high, .int .i64 E]) (by simp [results, Try.results91, go_sem, cc, ch, ce]) rfl ⟨rfl, ?_⟩
  exact (((hx.setCell (by show w.heap.size ≤ _; simp <;> omega) _).setCell (by show w.heap.size ≤ _; simp <;> omega) _).setCell (by show w.heap.size ≤ _; simp <;> omega) _).drew
end Go.Proofs.Ytiglflmjidikpaa
