/- DomNobody: a nil tree. No conditions. -/
import Derived.Test.YtjabnkopofieaaaDomQ
namespace Go.Proofs.Ytjabnkopofieaaa
open Go Go.RowKit Go.BigFrame
set_option linter.unusedVariables false
set_option linter.unusedSimpArgs false

set_option maxRecDepth 100000 in
set_option maxHeartbeats 2000000 in
theorem nobody_walk (w : World) : Calls Try.prog 8 #[] w (RBool true w) := by
  have hx : Ext w w := Ext.refl w
  go_enter Try.func8, Try.ntmps8
  go_wp2_with (first
    | (go_at_call 38; refine (Element_nil _ _ _).mono ?_; rintro e w' ⟨rfl, hy⟩; first | replace hx := hx.trans hy | replace hx := (hx.alloc _).trans hy | replace hx := ((hx.alloc _).alloc _).trans hy | replace hx := hx.trans (Ext.undrew hy); clear hy)
    | (go_at_call 35; refine (Text_nil _ (by decide) _).mono ?_; rintro e w' ⟨rfl, hy⟩; first | replace hx := hx.trans hy | replace hx := (hx.alloc _).trans hy | replace hx := ((hx.alloc _).alloc _).trans hy | replace hx := hx.trans (Ext.undrew hy); clear hy)
    | (go_at_call 25; refine (Graft_nil _ _ _ _ _ _ _).mono ?_; rintro e w' ⟨rfl, hy⟩; first | replace hx := hx.trans hy | replace hx := (hx.alloc _).trans hy | replace hx := ((hx.alloc _).alloc _).trans hy | replace hx := hx.trans (Ext.undrew hy); clear hy)
    | (go_at_call 39; refine (Room_nil _).mono ?_; rintro e w' ⟨rfl, hy⟩; first | replace hx := hx.trans hy | replace hx := (hx.alloc _).trans hy | replace hx := ((hx.alloc _).alloc _).trans hy | replace hx := hx.trans (Ext.undrew hy); clear hy)
    | (go_at_call 15; refine (Insert_nil _ _ _ _).mono ?_; rintro e w' ⟨rfl, hy⟩; first | replace hx := hx.trans hy | replace hx := (hx.alloc _).trans hy | replace hx := ((hx.alloc _).alloc _).trans hy | replace hx := hx.trans (Ext.undrew hy); clear hy)
    | (go_at_call 16; refine (Remove_nil _ _).mono ?_; rintro e w' ⟨rfl, hy⟩; first | replace hx := hx.trans hy | replace hx := (hx.alloc _).trans hy | replace hx := ((hx.alloc _).alloc _).trans hy | replace hx := hx.trans (Ext.undrew hy); clear hy)
    | (go_at_call 19; refine (Drop_nil _ _).mono ?_; rintro e w' ⟨rfl, hy⟩; first | replace hx := hx.trans hy | replace hx := (hx.alloc _).trans hy | replace hx := ((hx.alloc _).alloc _).trans hy | replace hx := hx.trans (Ext.undrew hy); clear hy)
    | (go_at_call 18; refine (SetAttrs_nil _ _ _).mono ?_; rintro e w' ⟨rfl, hy⟩; first | replace hx := hx.trans hy | replace hx := (hx.alloc _).trans hy | replace hx := ((hx.alloc _).alloc _).trans hy | replace hx := hx.trans (Ext.undrew hy); clear hy)
    | (go_at_call 17; refine (SetText_nil _ _ (by decide) _).mono ?_; rintro e w' ⟨rfl, hy⟩; first | replace hx := hx.trans hy | replace hx := (hx.alloc _).trans hy | replace hx := ((hx.alloc _).alloc _).trans hy | replace hx := hx.trans (Ext.undrew hy); clear hy)
    | (go_at_call 23; refine (SetTag_nil _ _ _).mono ?_; rintro e w' ⟨rfl, hy⟩; first | replace hx := hx.trans hy | replace hx := (hx.alloc _).trans hy | replace hx := ((hx.alloc _).alloc _).trans hy | replace hx := hx.trans (Ext.undrew hy); clear hy)
    | (go_at_call 21; refine (Has_nil _ _).mono ?_; rintro e w' ⟨rfl, rfl⟩)
    | (go_at_call 40; refine (Tag_nil _ _).mono ?_; rintro e w' ⟨rfl, rfl⟩)
    | (go_at_call 41; refine (Attrs_nil _ _).mono ?_; rintro e w' ⟨rfl, hy⟩; first | replace hx := hx.trans hy | replace hx := (hx.alloc _).trans hy | replace hx := ((hx.alloc _).alloc _).trans hy | replace hx := hx.trans (Ext.undrew hy); clear hy)
    | (go_at_call 42; refine (Told_nil _ _).mono ?_; rintro e w' ⟨rfl, rfl⟩)
    | (go_at_call 43; refine (Kids_nil _ _).mono ?_; rintro e w' ⟨rfl, hy⟩; first | replace hx := hx.trans hy | replace hx := (hx.alloc _).trans hy | replace hx := ((hx.alloc _).alloc _).trans hy | replace hx := hx.trans (Ext.undrew hy); clear hy)
    | (go_at_call 28; refine (Parent_nil _ _).mono ?_; rintro e w' ⟨rfl, rfl⟩)
    | (go_at_call 29; refine (Index_nil _ _).mono ?_; rintro e w' ⟨rfl, hy⟩; first | replace hx := hx.trans hy | replace hx := (hx.alloc _).trans hy | replace hx := ((hx.alloc _).alloc _).trans hy | replace hx := hx.trans (Ext.undrew hy); clear hy)
    | (go_at_call 30; refine (Depth_nil _ _).mono ?_; rintro e w' ⟨rfl, rfl⟩)
    | (go_at_call 44; refine (Height_nil _ _).mono ?_; rintro e w' ⟨rfl, hy⟩; first | replace hx := hx.trans hy | replace hx := (hx.alloc _).trans hy | replace hx := ((hx.alloc _).alloc _).trans hy | replace hx := hx.trans (Ext.undrew hy); clear hy)
    | (go_at_call 22; refine (Live_nil _ _).mono ?_; rintro e w' ⟨rfl, rfl⟩)
    | (go_at_call 13; refine (Count_nil _).mono ?_; rintro e w' ⟨rfl, rfl⟩)
    | (go_at_call 14; refine (Copy_nil _).mono ?_; rintro e w' ⟨rfl, hy⟩; first | replace hx := hx.trans hy | replace hx := (hx.alloc _).trans hy | replace hx := ((hx.alloc _).alloc _).trans hy | replace hx := hx.trans (Ext.undrew hy); clear hy)
    | (go_at_call 12; refine (Plain_nil _ _).mono ?_; rintro e w' ⟨rfl, hy⟩; first | replace hx := hx.trans hy | replace hx := (hx.alloc _).trans hy | replace hx := ((hx.alloc _).alloc _).trans hy | replace hx := hx.trans (Ext.undrew hy); clear hy)
    | (go_at_call 20; refine (SameNode_none _).mono ?_; rintro e w' ⟨rfl, hy⟩; first | replace hx := hx.trans hy | replace hx := (hx.alloc _).trans hy | replace hx := ((hx.alloc _).alloc _).trans hy | replace hx := hx.trans (Ext.undrew hy); clear hy)
    | (go_at_call 10; refine (awake_any _).mono ?_; rintro e w' ⟨rfl, hy⟩; first | replace hx := hx.trans hy | replace hx := (hx.alloc _).trans hy | replace hx := ((hx.alloc _).alloc _).trans hy | replace hx := hx.trans (Ext.undrew hy); clear hy))
  go_ret
  exact ⟨rfl, hx⟩
end Go.Proofs.Ytjabnkopofieaaa
