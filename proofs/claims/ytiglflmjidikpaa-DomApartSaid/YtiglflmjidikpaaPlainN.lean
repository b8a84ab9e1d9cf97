/- Package dom: Plain of a node that is not there. No conditions. -/
import Derived.Test.YtiglflmjidikpaaArgs
namespace Go.Proofs.Ytiglflmjidikpaa
open Go Go.RowKit Go.BigFrame
set_option linter.unusedVariables false
set_option linter.unusedSimpArgs false

set_option maxRecDepth 100000 in
set_option maxHeartbeats 1000000 in
theorem Plain_none {w : World} {own : Ow} {ptr : Nat → Nat} {tb : Nat} {T : Tr} (hT : TreeAt w own ptr tb T) (hO : Owned own w) {id : Int} (h : T.get? id = none) :
    Calls Try.prog 18 #[.pointer (some ⟨tb, 0, none⟩), .int .i64 id] w (RVal noNode w) := by
  have H := Lib.hid h
  have xu := (Ext.refl w).alloc (.cells #[.int .i64 0, .slice none 0 0, .string ⟨#[]⟩, .slice none 0 0] 30)
  have HT := Lib.hid (hT.keep (xu.keep hO))
  clear h hT xu
  go_enter Try.func18, Try.ntmps18
  go_wp2_with (go_at_call 80; refine (get_none HT.out H.out).mono ?_; rintro e w' ⟨rfl, rfl⟩)
  refine bodyPost_ret (v := noNode) (by simp [results, Try.results18, go_sem]; rfl) rfl ⟨rfl, ?_⟩
  repeat (first | exact Ext.refl _ | refine Ext.alloc ?_ _)
end Go.Proofs.Ytiglflmjidikpaa
