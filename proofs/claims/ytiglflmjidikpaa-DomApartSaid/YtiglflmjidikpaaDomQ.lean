/- The chapter's examples of package dom (awake) come true. No conditions. -/
import Derived.Test.YtiglflmjidikpaaDomP
namespace Go.Proofs.Ytiglflmjidikpaa
open Go Go.RowKit Go.BigFrame
set_option linter.unusedVariables false
set_option linter.unusedSimpArgs false

def strA : ByteArray := ⟨#[97]⟩
theorem anewA : (anewB strA).size ≤ 8192 := Nat.le_trans (anewB_size strA) (by decide)
abbrev eNd (k : List Int) (p : Int) : Nd := ⟨1, [], ByteArray.empty, k, p⟩
abbrev pNd (p : Int) : Nd := ⟨2, [], ByteArray.empty, [], p⟩
def aw1 : Tr := ⟨3, 1, 2, [some (eNd [] (-1)), some (pNd (-1))]⟩
def aw2 : Tr := ⟨3, 1, 3, [some (eNd [] (-1)), some (pNd (-1)), some ⟨0, [], anewB strA, [], -1⟩]⟩
def aw3 : Tr := ⟨3, 1, 3, [some (eNd [1] (-1)), some (pNd 0), some ⟨0, [], anewB strA, [], -1⟩]⟩
theorem aw1_put : (hostOf 3 1).put (pNd (-1)) = aw1 := rfl
theorem aw2_put : aw1.put ⟨0, [], anewB strA, [], -1⟩ = aw2 := rfl
theorem aw3_link : aw2.link 0 0 1 (eNd [] (-1)) (pNd (-1)) = aw3 := rfl
theorem hostOf_id : (hostOf 3 1).newId = 1 := rfl
theorem aw1_id : aw1.newId = 2 := rfl
theorem aw1_wf : WF aw1 (fun j => if (j : Int) = (hostOf 3 1).newId then 0 else 0) := by
  have h := WF.put (hostOf_wf 3 1 (by decide) (by decide) (by decide) (by decide)) (pNd (-1)) rfl rfl (by decide) (by decide) (by decide) (by rw [hostOf_id]; decide)
  exact h
theorem aw2_wf : WF aw2 (fun j => if (j : Int) = aw1.newId then 0 else if (j : Int) = (hostOf 3 1).newId then 0 else 0) := by
  have h := WF.put aw1_wf ⟨0, [], anewB strA, [], -1⟩ rfl rfl (by decide) (by decide) (by decide) (by rw [aw1_id]; decide)
  exact h
def d3 (i : Nat) : Nat := if i = 1 then 1 else 0
theorem aw3_wf : WF aw3 d3 := by
  have hz : ∀ (i : Nat) (nd : Nd), aw3.nodes[i]? = some (some nd) → i = 0 ∧ nd = eNd [1] (-1) ∨ i = 1 ∧ nd = pNd 0 ∨ i = 2 ∧ nd = ⟨0, [], anewB strA, [], -1⟩ := by
    intro i nd h
    match i, h with
    | 0, h => left; simp [aw3] at h; exact ⟨rfl, h.symm⟩
    | 1, h => right; left; simp [aw3] at h; exact ⟨rfl, h.symm⟩
    | 2, h => right; right; simp [aw3] at h; exact ⟨rfl, h.symm⟩
    | i + 3, h => simp [aw3] at h
  refine ⟨⟨by decide, by decide, by decide, by decide, by decide, by decide, by decide⟩, ⟨_, rfl, rfl, rfl⟩, fun i nd h => ?_, fun i nd h => ?_, fun i nd h => ?_, fun i nd h => ?_, rfl⟩
  · rcases hz i nd h with ⟨rfl, rfl⟩ | ⟨rfl, rfl⟩ | ⟨rfl, rfl⟩ <;> decide
  · rcases hz i nd h with ⟨rfl, rfl⟩ | ⟨rfl, rfl⟩ | ⟨rfl, rfl⟩
    · exact .inl ⟨rfl, rfl⟩
    · exact .inr ⟨0, eNd [1] (-1), rfl, rfl, rfl, by simp⟩
    · exact .inl ⟨rfl, rfl⟩
  · rcases hz i nd h with ⟨rfl, rfl⟩ | ⟨rfl, rfl⟩ | ⟨rfl, rfl⟩
    · exact ⟨by decide, fun k hk => ⟨1, pNd 0, by simpa using hk, rfl, rfl⟩⟩
    · exact ⟨List.nodup_nil, fun k hk => by simp at hk⟩
    · exact ⟨List.nodup_nil, fun k hk => by simp at hk⟩
  · rcases hz i nd h with ⟨rfl, rfl⟩ | ⟨rfl, rfl⟩ | ⟨rfl, rfl⟩
    · exact ⟨by decide, by decide, fun h => absurd h (by decide)⟩
    · exact ⟨by decide, by decide, fun h => absurd h (by decide)⟩
    · exact ⟨by decide, by decide, fun h => rfl⟩
theorem emptyRow (w : World) : RowRd w 2 (.slice none 0 0) ([] : List (ByteArray × ByteArray)).length (attrCells []) := ⟨rfl, none, 0, rfl, Nat.le_refl _, fun _ => ⟨rfl, rfl⟩, fun a h => by cases h⟩

theorem Step.fresh {own own' : Ow} {w w1 w2 : World} (h : Step own w1 own' w2) (hx : Ext w w1) (hn : ∀ b, own b ≠ none → w.heap.size ≤ b) : Ext w w2 ∧ ∀ b, own' b ≠ none → w.heap.size ≤ b := by
  have hs := Ext.size hx
  refine ⟨Below.trans hx ⟨h.os, h.tape, h.output, h.size, fun k hk => h.rest k (Nat.lt_of_lt_of_le hk hs) (Classical.byContradiction fun e => by have := hn k e; omega)⟩, fun b hb => ?_⟩
  rcases Nat.lt_or_ge b w1.heap.size with hlt | hge
  · exact hn b (by rw [← h.same b hlt]; exact hb)
  · exact Nat.le_trans hs hge

set_option maxRecDepth 100000 in
set_option maxHeartbeats 1000000 in
theorem awake_any (w : World) : Calls Try.prog 16 #[] w (RVal (.bool true) w) := by
  go_enter Try.func16, Try.ntmps16
  go_wp2_with fail
  refine (New_ok 3 1 (by decide) (by decide) (by decide) (by decide) _).mono ?_
  rintro e w1 ⟨tb, own, ptr, rfl, hT, hO, hx, hn⟩
  go_wp2_with fail
  refine (Element_ok hT hO (hostOf_wf 3 1 (by decide) (by decide) (by decide) (by decide)) 2 (by decide) (by decide) (by decide) (emptyRow w1) (by simp)).mono ?_
  rintro e w2 ⟨rfl, own2, ptr2, hT2, hS2⟩
  rw [hostOf_id]
  rw [aw1_put] at hT2
  clear hT
  go_wp2_with fail
  refine (Text_ok hT2 hS2.owned aw1_wf strA (by decide) anewA (by decide)).mono ?_
  rintro e w3 ⟨rfl, own3, ptr3, hT3, hS3⟩
  rw [aw1_id]
  rw [aw2_put] at hT3
  clear hT2
  go_wp2_with fail
  refine (Insert_ok hT3 hS3.owned aw2_wf (p := 0) (k := 1) (at' := 0) (pd := eNd [] (-1)) (kd := pNd (-1)) rfl rfl rfl (by decide) rfl (by decide) (by decide) (by rfl) (by decide) (insertsAt_end [])).mono ?_
  rintro e w4 ⟨rfl, own4, ptr4, hT4, hS4⟩
  rw [aw3_link] at hT4
  clear hT3
  go_wp2_with fail
  refine (Insert_deep hT4 hS4.owned aw3_wf (p := 1) (k := 2) (at' := 0) (pd := pNd 0) (kd := ⟨0, [], anewB strA, [], -1⟩) rfl rfl rfl (by decide) rfl (by decide) (by decide) (by rfl) (by decide)).mono ?_
  rintro e w5 ⟨rfl, hx5⟩
  have hT5 := hT4.keep (hx5.keep hS4.owned)
  obtain ⟨y2, m2⟩ := hS2.fresh hx hn
  obtain ⟨y3, m3⟩ := hS3.fresh y2 m2
  obtain ⟨y4, m4⟩ := hS4.fresh y3 m3
  have y5 := y4.trans hx5
  clear hT4 hS2 hS3 hS4 hx hn y2 y3 y4 m2 m3 m4 hx5 hO
  go_wp2_with fail
  refine (Count_any hT5).mono ?_
  rintro e w' ⟨rfl, rfl⟩
  go_wp2_with fail
  refine (Live_some hT5 aw3_wf (i := 1) (nd := pNd 0) rfl).mono ?_
  rintro e w' ⟨rfl, rfl⟩
  rw [show aw3.within ((1 : Nat) : Int) 0 = true from by decide]
  go_wp2_with fail
  refine (Live_some hT5 aw3_wf (i := 2) (nd := ⟨0, [], anewB strA, [], -1⟩) rfl).mono ?_
  rintro e w' ⟨rfl, rfl⟩
  rw [show aw3.within ((2 : Nat) : Int) 0 = false from by decide]
  go_wp2_with fail
  go_ret
  exact ⟨rfl, y5⟩
end Go.Proofs.Ytiglflmjidikpaa
