/- The document's tags (02): Class, Names, Name at any number. No conditions. (Printed by wip/gen_pmb.py.) -/
import Derived.Test.YtdafdoodegpdhaaDoorPG
namespace Go.Proofs.YtdafdoodegpdhaaDoor
open Go Go.RowKit Go.BigFrame
set_option linter.unusedVariables false
set_option linter.unusedSimpArgs false

set_option maxHeartbeats 2000000 in
set_option maxRecDepth 100000 in
theorem rClass_any (w : World) (t : Int) : Calls Tryd.prog 30 #[.int .i64 t] w (RVal (.int .i64 (clsT t)) w) := by
  have x := Ext.refl w
  have h : t = 0 ∨ t = 1 ∨ t = 2 ∨ t = 3 ∨ t = 4 ∨ t = 5 ∨ t = 6 ∨ t = 7 ∨ t = 8 ∨ t = 9 ∨ t = 10 ∨ t = 11 ∨ t = 12 ∨ t = 13 ∨ t = 14 ∨ t = 15 ∨ t = 16 ∨ t < 0 ∨ 16 < t := by omega
  rcases h with rfl | rfl | rfl | rfl | rfl | rfl | rfl | rfl | rfl | rfl | rfl | rfl | rfl | rfl | rfl | rfl | rfl | h | h
  · go_enter Tryd.func30, Tryd.ntmps30
    go_wp2
    go_ret
    exact ⟨rfl, x⟩
  · go_enter Tryd.func30, Tryd.ntmps30
    go_wp2
    go_ret
    exact ⟨rfl, x⟩
  · go_enter Tryd.func30, Tryd.ntmps30
    go_wp2
    go_ret
    exact ⟨rfl, x⟩
  · go_enter Tryd.func30, Tryd.ntmps30
    go_wp2
    go_ret
    exact ⟨rfl, x⟩
  · go_enter Tryd.func30, Tryd.ntmps30
    go_wp2
    go_ret
    exact ⟨rfl, x⟩
  · go_enter Tryd.func30, Tryd.ntmps30
    go_wp2
    go_ret
    exact ⟨rfl, x⟩
  · go_enter Tryd.func30, Tryd.ntmps30
    go_wp2
    go_ret
    exact ⟨rfl, x⟩
  · go_enter Tryd.func30, Tryd.ntmps30
    go_wp2
    go_ret
    exact ⟨rfl, x⟩
  · go_enter Tryd.func30, Tryd.ntmps30
    go_wp2
    go_ret
    exact ⟨rfl, x⟩
  · go_enter Tryd.func30, Tryd.ntmps30
    go_wp2
    go_ret
    exact ⟨rfl, x⟩
  · go_enter Tryd.func30, Tryd.ntmps30
    go_wp2
    go_ret
    exact ⟨rfl, x⟩
  · go_enter Tryd.func30, Tryd.ntmps30
    go_wp2
    go_ret
    exact ⟨rfl, x⟩
  · go_enter Tryd.func30, Tryd.ntmps30
    go_wp2
    go_ret
    exact ⟨rfl, x⟩
  · go_enter Tryd.func30, Tryd.ntmps30
    go_wp2
    go_ret
    exact ⟨rfl, x⟩
  · go_enter Tryd.func30, Tryd.ntmps30
    go_wp2
    go_ret
    exact ⟨rfl, x⟩
  · go_enter Tryd.func30, Tryd.ntmps30
    go_wp2
    go_ret
    exact ⟨rfl, x⟩
  · go_enter Tryd.func30, Tryd.ntmps30
    go_wp2
    go_ret
    exact ⟨rfl, x⟩
  · have e1 : clsT t = 0 := if_pos (.inl h)
    rw [e1]
    clear e1
    go_enter Tryd.func30, Tryd.ntmps30
    go_wp2
    go_ret
    exact ⟨rfl, x⟩
  · have e1 : clsT t = 0 := if_pos (.inr h)
    have h0 : ¬ t < 0 := by omega
    rw [e1]
    clear e1
    go_enter Tryd.func30, Tryd.ntmps30
    go_wp2
    go_ret
    exact ⟨rfl, x⟩
/-- a tag's names -/
def NamesIs (t : Int) (w : World) (e : Ending) (w' : World) : Prop := ∃ v, e = .returned v ∧ Ext w w' ∧
  ((v = .slice none 0 0 ∧ nameT t = ⟨#[]⟩) ∨ ∃ g n : Nat, v = .slice (some ⟨g, 0, none⟩) n n ∧ 0 < n ∧ w'.cell? ⟨g, 0, none⟩ = some (.string (nameT t)))
def TabN (w : World) (v : Value) (w' : World) : Prop := ∃ T B g1 g2 g3 g4 g5 g6 g7 g8 g9 g10 g11 g12 g13 g14 g15 g16 : Nat, v = .slice (some ⟨T, 0, none⟩) 17 17 ∧ w'.heap[T]? = some (.cells #[.slice none 0 0, .slice (some ⟨g1, 0, none⟩) 1 1, .slice (some ⟨g2, 0, none⟩) 1 1, .slice (some ⟨g3, 0, none⟩) 1 1, .slice (some ⟨g4, 0, none⟩) 1 1, .slice (some ⟨g5, 0, none⟩) 1 1, .slice (some ⟨g6, 0, none⟩) 1 1, .slice (some ⟨g7, 0, none⟩) 1 1, .slice (some ⟨g8, 0, none⟩) 1 1, .slice (some ⟨g9, 0, none⟩) 1 1, .slice (some ⟨g10, 0, none⟩) 1 1, .slice (some ⟨g11, 0, none⟩) 2 2, .slice (some ⟨g12, 0, none⟩) 2 2, .slice (some ⟨g13, 0, none⟩) 2 2, .slice (some ⟨g14, 0, none⟩) 3 3, .slice (some ⟨g15, 0, none⟩) 1 1, .slice (some ⟨g16, 0, none⟩) 1 1] 73 (0, 0)) ∧ Has B [(g16, #[.string ⟨#[98, 114]⟩]), (g15, #[.string ⟨#[115, 112, 97, 110]⟩]), (g14, #[.string ⟨#[115]⟩, .string ⟨#[115, 116, 114, 105, 107, 101]⟩, .string ⟨#[100, 101, 108]⟩]), (g13, #[.string ⟨#[117]⟩, .string ⟨#[105, 110, 115]⟩]), (g12, #[.string ⟨#[105]⟩, .string ⟨#[101, 109]⟩]), (g11, #[.string ⟨#[98]⟩, .string ⟨#[115, 116, 114, 111, 110, 103]⟩]), (g10, #[.string ⟨#[97]⟩]), (g9, #[.string ⟨#[108, 105]⟩]), (g8, #[.string ⟨#[111, 108]⟩]), (g7, #[.string ⟨#[117, 108]⟩]), (g6, #[.string ⟨#[98, 108, 111, 99, 107, 113, 117, 111, 116, 101]⟩]), (g5, #[.string ⟨#[104, 51]⟩]), (g4, #[.string ⟨#[104, 50]⟩]), (g3, #[.string ⟨#[104, 49]⟩]), (g2, #[.string ⟨#[112]⟩]), (g1, #[.string ⟨#[100, 105, 118]⟩])] w' ∧ Ext w w'
set_option maxHeartbeats 4000000 in
set_option maxRecDepth 100000 in
theorem Names_any (w : World) (t : Int) : Calls Tryd.prog 51 #[.int .i64 t] w (NamesIs t w) := by
  have HX := Ext.refl w
  have HS : Has w.heap.size [] w := fun p hp => by cases hp
  go_enter Tryd.func51, Tryd.ntmps51
  go_upto_region 1 with fail
  go_cut [3] (fun v wx => TabN w v wx)
  case first =>
    go_wp2_with (with_reducible refine wpList_name HX HS ?_; clear HX HS; intro _ HX HS)
    rename_i W1 W2 W3 W4 W5 W6 W7 W8 W9 W10 W11 W12 W13 W14 W15 W16
    go_meet
    exact ⟨_, _, _, _, _, _, _, _, _, _, _, _, _, _, _, _, _, _, rfl, heap_alloc_new _ _, HS.more ((Ext.refl _).alloc _), HX.alloc _⟩
  case rest =>
    obtain ⟨T, B, g1, g2, g3, g4, g5, g6, g7, g8, g9, g10, g11, g12, g13, g14, g15, g16, rfl, hT, hH, hX⟩ := hcut
    have HH := Lib.hid hH
    have XX := Lib.hid hX
    have HT := Lib.hid hT
    clear hH hX hT HX HS
    have h : t = 0 ∨ t = 1 ∨ t = 2 ∨ t = 3 ∨ t = 4 ∨ t = 5 ∨ t = 6 ∨ t = 7 ∨ t = 8 ∨ t = 9 ∨ t = 10 ∨ t = 11 ∨ t = 12 ∨ t = 13 ∨ t = 14 ∨ t = 15 ∨ t = 16 ∨ t < 0 ∨ 16 < t := by omega
    rcases h with rfl | rfl | rfl | rfl | rfl | rfl | rfl | rfl | rfl | rfl | rfl | rfl | rfl | rfl | rfl | rfl | rfl | h | h
    · have c0 := cellOf HT.out (i := 0) (v := .slice none 0 0) rfl
      go_wp2_with fail
      go_ret
      exact ⟨_, rfl, XX.out, .inl ⟨rfl, rfl⟩⟩
    · have c0 := cellOf HT.out (i := 1) (v := .slice (some ⟨g1, 0, none⟩) 1 1) rfl
      go_wp2_with fail
      go_ret
      exact ⟨_, rfl, XX.out, .inr ⟨g1, 1, rfl, by decide, HH.out.cell0 (g := g1) (cs := #[.string ⟨#[100, 105, 118]⟩]) (by simp) rfl⟩⟩
    · have c0 := cellOf HT.out (i := 2) (v := .slice (some ⟨g2, 0, none⟩) 1 1) rfl
      go_wp2_with fail
      go_ret
      exact ⟨_, rfl, XX.out, .inr ⟨g2, 1, rfl, by decide, HH.out.cell0 (g := g2) (cs := #[.string ⟨#[112]⟩]) (by simp) rfl⟩⟩
    · have c0 := cellOf HT.out (i := 3) (v := .slice (some ⟨g3, 0, none⟩) 1 1) rfl
      go_wp2_with fail
      go_ret
      exact ⟨_, rfl, XX.out, .inr ⟨g3, 1, rfl, by decide, HH.out.cell0 (g := g3) (cs := #[.string ⟨#[104, 49]⟩]) (by simp) rfl⟩⟩
    · have c0 := cellOf HT.out (i := 4) (v := .slice (some ⟨g4, 0, none⟩) 1 1) rfl
      go_wp2_with fail
      go_ret
      exact ⟨_, rfl, XX.out, .inr ⟨g4, 1, rfl, by decide, HH.out.cell0 (g := g4) (cs := #[.string ⟨#[104, 50]⟩]) (by simp) rfl⟩⟩
    · have c0 := cellOf HT.out (i := 5) (v := .slice (some ⟨g5, 0, none⟩) 1 1) rfl
      go_wp2_with fail
      go_ret
      exact ⟨_, rfl, XX.out, .inr ⟨g5, 1, rfl, by decide, HH.out.cell0 (g := g5) (cs := #[.string ⟨#[104, 51]⟩]) (by simp) rfl⟩⟩
    · have c0 := cellOf HT.out (i := 6) (v := .slice (some ⟨g6, 0, none⟩) 1 1) rfl
      go_wp2_with fail
      go_ret
      exact ⟨_, rfl, XX.out, .inr ⟨g6, 1, rfl, by decide, HH.out.cell0 (g := g6) (cs := #[.string ⟨#[98, 108, 111, 99, 107, 113, 117, 111, 116, 101]⟩]) (by simp) rfl⟩⟩
    · have c0 := cellOf HT.out (i := 7) (v := .slice (some ⟨g7, 0, none⟩) 1 1) rfl
      go_wp2_with fail
      go_ret
      exact ⟨_, rfl, XX.out, .inr ⟨g7, 1, rfl, by decide, HH.out.cell0 (g := g7) (cs := #[.string ⟨#[117, 108]⟩]) (by simp) rfl⟩⟩
    · have c0 := cellOf HT.out (i := 8) (v := .slice (some ⟨g8, 0, none⟩) 1 1) rfl
      go_wp2_with fail
      go_ret
      exact ⟨_, rfl, XX.out, .inr ⟨g8, 1, rfl, by decide, HH.out.cell0 (g := g8) (cs := #[.string ⟨#[111, 108]⟩]) (by simp) rfl⟩⟩
    · have c0 := cellOf HT.out (i := 9) (v := .slice (some ⟨g9, 0, none⟩) 1 1) rfl
      go_wp2_with fail
      go_ret
      exact ⟨_, rfl, XX.out, .inr ⟨g9, 1, rfl, by decide, HH.out.cell0 (g := g9) (cs := #[.string ⟨#[108, 105]⟩]) (by simp) rfl⟩⟩
    · have c0 := cellOf HT.out (i := 10) (v := .slice (some ⟨g10, 0, none⟩) 1 1) rfl
      go_wp2_with fail
      go_ret
      exact ⟨_, rfl, XX.out, .inr ⟨g10, 1, rfl, by decide, HH.out.cell0 (g := g10) (cs := #[.string ⟨#[97]⟩]) (by simp) rfl⟩⟩
    · have c0 := cellOf HT.out (i := 11) (v := .slice (some ⟨g11, 0, none⟩) 2 2) rfl
      go_wp2_with fail
      go_ret
      exact ⟨_, rfl, XX.out, .inr ⟨g11, 2, rfl, by decide, HH.out.cell0 (g := g11) (cs := #[.string ⟨#[98]⟩, .string ⟨#[115, 116, 114, 111, 110, 103]⟩]) (by simp) rfl⟩⟩
    · have c0 := cellOf HT.out (i := 12) (v := .slice (some ⟨g12, 0, none⟩) 2 2) rfl
      go_wp2_with fail
      go_ret
      exact ⟨_, rfl, XX.out, .inr ⟨g12, 2, rfl, by decide, HH.out.cell0 (g := g12) (cs := #[.string ⟨#[105]⟩, .string ⟨#[101, 109]⟩]) (by simp) rfl⟩⟩
    · have c0 := cellOf HT.out (i := 13) (v := .slice (some ⟨g13, 0, none⟩) 2 2) rfl
      go_wp2_with fail
      go_ret
      exact ⟨_, rfl, XX.out, .inr ⟨g13, 2, rfl, by decide, HH.out.cell0 (g := g13) (cs := #[.string ⟨#[117]⟩, .string ⟨#[105, 110, 115]⟩]) (by simp) rfl⟩⟩
    · have c0 := cellOf HT.out (i := 14) (v := .slice (some ⟨g14, 0, none⟩) 3 3) rfl
      go_wp2_with fail
      go_ret
      exact ⟨_, rfl, XX.out, .inr ⟨g14, 3, rfl, by decide, HH.out.cell0 (g := g14) (cs := #[.string ⟨#[115]⟩, .string ⟨#[115, 116, 114, 105, 107, 101]⟩, .string ⟨#[100, 101, 108]⟩]) (by simp) rfl⟩⟩
    · have c0 := cellOf HT.out (i := 15) (v := .slice (some ⟨g15, 0, none⟩) 1 1) rfl
      go_wp2_with fail
      go_ret
      exact ⟨_, rfl, XX.out, .inr ⟨g15, 1, rfl, by decide, HH.out.cell0 (g := g15) (cs := #[.string ⟨#[115, 112, 97, 110]⟩]) (by simp) rfl⟩⟩
    · have c0 := cellOf HT.out (i := 16) (v := .slice (some ⟨g16, 0, none⟩) 1 1) rfl
      go_wp2_with fail
      go_ret
      exact ⟨_, rfl, XX.out, .inr ⟨g16, 1, rfl, by decide, HH.out.cell0 (g := g16) (cs := #[.string ⟨#[98, 114]⟩]) (by simp) rfl⟩⟩
    · have e2 : nameT t = ⟨#[]⟩ := by unfold nameT; rw [if_neg (by omega), if_neg (by omega), if_neg (by omega), if_neg (by omega), if_neg (by omega), if_neg (by omega), if_neg (by omega), if_neg (by omega), if_neg (by omega), if_neg (by omega), if_neg (by omega), if_neg (by omega), if_neg (by omega), if_neg (by omega), if_neg (by omega), if_neg (by omega)]
      have E2 := Lib.hid e2
      clear e2
      go_wp2_with fail
      go_ret
      exact ⟨_, rfl, XX.out, .inl ⟨rfl, E2.out⟩⟩
    · have h0 : ¬ t < 0 := by omega
      have e2 : nameT t = ⟨#[]⟩ := by unfold nameT; rw [if_neg (by omega), if_neg (by omega), if_neg (by omega), if_neg (by omega), if_neg (by omega), if_neg (by omega), if_neg (by omega), if_neg (by omega), if_neg (by omega), if_neg (by omega), if_neg (by omega), if_neg (by omega), if_neg (by omega), if_neg (by omega), if_neg (by omega), if_neg (by omega)]
      have E2 := Lib.hid e2
      clear e2
      go_wp2_with fail
      go_ret
      exact ⟨_, rfl, XX.out, .inl ⟨rfl, E2.out⟩⟩
set_option maxHeartbeats 1000000 in
set_option maxRecDepth 100000 in
theorem rName_any (w : World) (t : Int) : Calls Tryd.prog 31 #[.int .i64 t] w (RVal (.string (nameT t)) w) := by
  go_enter Tryd.func31, Tryd.ntmps31
  go_wp2_with fail
  refine (Names_any _ t).mono ?_
  rintro e w2 ⟨v, rfl, hx, hv⟩
  generalize nameT t = nm at *
  rcases hv with ⟨rfl, rfl⟩ | ⟨g, n, rfl, hn, hc⟩
  · go_wp2
    go_ret
    exact ⟨rfl, hx⟩
  · have h0 : ((n : Int) == 0) = false := by simp; omega
    have h1 : (0 : Int) < (n : Int) := by omega
    go_wp2
    go_ret
    exact ⟨rfl, hx⟩
end Go.Proofs.YtdafdoodegpdhaaDoor
