/- law14.awake; LexDecode. Conditions: none. -/
import Derived.Test.YtdafdoodegpdhaaDoorMC
import Derived.Test.YtdafdoodegpdhaaDoorLO
namespace Go.Proofs.YtdafdoodegpdhaaDoor
open Go Go.RowKit Go.BigFrame
set_option linter.unusedVariables false
set_option linter.unusedSimpArgs false

theorem All_short {s t : ByteArray} {l : List Tk} {w : World} {e : Ending} {w' : World} (h : RAll t w e w') (ht : t.size ≤ 8192) (hl : tokens t.data.toList = l) : ∃ v, e = .returned (.tuple #[v, .int .i64 0]) ∧ Ext w w' ∧ TkRd w' v l := by
  rcases h with ⟨h1, _⟩ | ⟨_, v, h2, h3, h4⟩
  · omega
  · exact ⟨v, h2, h3, hl ▸ h4⟩
set_option maxHeartbeats 2000000 in
set_option maxRecDepth 100000 in
theorem awake_any (w : World) (hl : LW w) : Calls Tryd.prog 18 #[] w (RBool true w) := by
  have HA := Lib.hid (All_any exA (by decide) w hl)
  rw [exA_anew] at HA
  have HB := Lib.hid (fun W hW => All_any exB (by decide) W hW)
  rw [exB_anew] at HB
  have HL := Lib.hid hl
  clear hl
  unfold exA at HA
  unfold exB at HB
  go_enter Tryd.func18, Tryd.ntmps18
  go_wp2_with (go_at_call 21; refine HA.out.mono ?_)
  intro e w1 h1
  obtain ⟨v1, rfl, x1, t1⟩ := All_short (s := exA) h1 (by decide) exA_toks
  have X1 := Lib.hid x1
  have T1 := Lib.hid t1
  clear h1 t1
  go_wp2_with (go_at_call 21; refine (HB.out w1 (HL.out.ext x1)).mono ?_)
  intro e w2 h2
  obtain ⟨v2, rfl, x2, t2⟩ := All_short (s := exB) h2 (by decide) exB_toks
  obtain ⟨a1, c1, rfl, hc1, hg1⟩ := (T1.out.ext x2).at
  obtain ⟨g1, rfl, ht1⟩ := hg1 (by decide)
  obtain ⟨a2, c2, rfl, hc2, hg2⟩ := t2.at
  obtain ⟨g2, rfl, ht2⟩ := hg2 (by decide)
  have p0 := ht1 0 _ rfl
  have p1 := ht1 1 _ rfl
  have p2 := ht1 2 _ rfl
  have q0 := ht2 0 _ rfl
  have n0 : w2.cell? ⟨g1, 1, none⟩ = some (.string ⟨#[98]⟩) := p0.name
  obtain ⟨aa, ac, a0, _⟩ := p0.attrs
  have a0 : w2.cell? ⟨g1, 3, none⟩ = some (.slice aa 1 ac) := a0
  have x1' : w2.cell? ⟨g1, 9, none⟩ = some (.string ⟨#[97, 60]⟩) := p1.text
  have k2 : w2.cell? ⟨g1, 14, none⟩ = some (.int .i64 3) := p2.kind
  have y0 : w2.cell? ⟨g2, 2, none⟩ = some (.string ⟨#[97, 60, 49, 32, 32, 98]⟩) := q0.text
  have X2 := Lib.hid (X1.out.trans x2)
  clear p0 p1 p2 q0 ht1 ht2 hg1 hg2 t2 x2 x1 h2
  go_wp2_with fail
  go_ret
  exact ⟨rfl, X2.out⟩
set_option maxHeartbeats 1000000 in
theorem decode_walk (s : ByteArray) (w : World) (hl : LW w) : Calls Tryd.prog 5 #[.string s] w (RBool true w) := by
  have HL := Lib.hid hl
  by_cases h5 : 50000 < s.size
  · have hi : decide ((50000 : Int) < (s.size : Int)) = true := decide_eq_true (by omega)
    have hn : decide (50000 < s.size) = true := decide_eq_true h5
    have HW := Lib.hid (awake_any w hl)
    clear hl h5
    go_enter Tryd.func5, Tryd.ntmps5
    go_wp2_with (go_at_call 18; refine HW.out.mono ?_)
    rintro e w1 ⟨rfl, x1⟩
    go_wp2_with fail
    go_ret
    exact ⟨rfl, x1⟩
  · have hi : decide ((50000 : Int) < (s.size : Int)) = false := decide_eq_false (by omega)
    have hn : decide (50000 < s.size) = false := decide_eq_false h5
    have HD := Lib.hid (Decode_any s (by omega) w hl)
    have HR := Lib.hid (fun W => rDecode_any s (by omega) W)
    have HW := Lib.hid (fun W hW => awake_any W hW)
    obtain ⟨o, ho⟩ : ∃ o, bs (decL (anewB s).data.toList) = o := ⟨_, rfl⟩
    rw [ho] at HD HR
    have e1 : (o.toList == o.toList) = true := beq_self_eq_true _
    clear hl h5 ho
    go_enter Tryd.func5, Tryd.ntmps5
    go_wp2_with (go_at_call 19; refine HD.out.mono ?_)
    rintro e w1 ⟨rfl, x1⟩
    have X1 := Lib.hid x1
    clear x1
    go_wp2_with (go_at_call 20; refine (HR.out _).mono ?_)
    rintro e w2 ⟨rfl, x2⟩
    have X2 := Lib.hid (X1.out.trans x2)
    clear x2
    go_wp2_with (go_at_call 18; refine (HW.out _ (HL.out.ext X2.out)).mono ?_)
    rintro e w3 ⟨rfl, x3⟩
    go_wp2_with fail
    go_ret
    exact ⟨rfl, X2.out.trans x3⟩
end Go.Proofs.YtdafdoodegpdhaaDoor
