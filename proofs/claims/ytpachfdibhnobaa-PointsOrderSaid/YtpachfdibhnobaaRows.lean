/-
  No cell of these rows narrows 'for every input' (looked for: loops, veiled, ifaces, maps, wideKeys, modest, calm, conditions, laid).
  DERIVED. THE GIVEN ROWS OF THIS SEAT. 3 by the template 'for every input the law returns true; each argument reads behind the call as it read before'; 0 by the template 'total and deterministic' (their statements: YtpachfdibhnobaaTotals.lean).
  GIVEN WITH THE SEED: the statements are not yours to turn. If you find one false, say at which input.
  Laid BY PROGRAM, IN A SANDBOX (cutbox-rows.mjs): the forced cells as the released guide's own fill.sh prints them over the translation dd2ab6f6a5e8bdde… (all of the seat's roots in one cut). By AI agents, Wed Nov 11 2026. No macro, syntax, notation, axiom, sorry.
-/
import Derived.Test.YtpachfdibhnobaaChecked
import GoSem.Claim
import GoSem.ClaimJoined
import GoSem.ClaimMapViews
import Derived.JoinedTies
import Derived.KernelRfl
namespace Go.Proofs.Ytpachfdibhnobaa
/- THE CELL 'sum', in the pinned program and in every row, IS THE sha256 OF THE DUMP (.gsa) THAT YtpachfdibhnobaaProg.lean LOADS. Nothing in Lean hashes anything: it is a label: what it is worth is what the hold of that sum in a sandbox is worth. -/
noncomputable def Try.pinned : Pinned := { name := "ytpachfdibhnobaa", sum := "dd2ab6f6a5e8bdde05d52b7dab11c40cf0285e9338c6c30042771d4d05ceed53", checked := Try.checked }
namespace Rows
def none {H : Type} : Left H := { results := [], args := [] }

/-- 'quillworklaw10.PointsOrder': WHATEVER THE INPUT: true; the input reads as it did. -/
def pointsOrderSpec : ChangeSpec := { name := "pointsOrder", fn := fun _ => fun
  | [d1, d2, d3, d4, d5, d6] => { results := [.lit (.bool true)], args := [d1, d2, d3, d4, d5, d6] }
  | _ => none }
def pointsOrderRow : OpenClaim := { program := "ytpachfdibhnobaa", sum := "dd2ab6f6a5e8bdde05d52b7dab11c40cf0285e9338c6c30042771d4d05ceed53", func := "quillwork/quillworklaw10.PointsOrder", spec := "pointsOrder", unfollowed := true, recurses := true, apart := false }
def PointsOrderSaid : Prop := pointsOrderRow.holds Try.pinned (OpenSpec.ofChange pointsOrderSpec)

/-- ITS FALSE NEIGHBOUR: 'it returns false'. Refute it at one input. -/
def pointsOrderWrong : ChangeSpec := { name := "pointsOrder", fn := fun _ => fun
  | [d1, d2, d3, d4, d5, d6] => { results := [.lit (.bool false)], args := [d1, d2, d3, d4, d5, d6] }
  | _ => none }
def PointsOrderWrongFalsely : Prop := pointsOrderRow.holds Try.pinned (OpenSpec.ofChange pointsOrderWrong)

/-- 'quillworklaw10.PointsMoved': WHATEVER THE INPUT: true; the input reads as it did. -/
def pointsMovedSpec : ChangeSpec := { name := "pointsMoved", fn := fun _ => fun
  | [d1, d2, d3, d4] => { results := [.lit (.bool true)], args := [d1, d2, d3, d4] }
  | _ => none }
def pointsMovedRow : OpenClaim := { program := "ytpachfdibhnobaa", sum := "dd2ab6f6a5e8bdde05d52b7dab11c40cf0285e9338c6c30042771d4d05ceed53", func := "quillwork/quillworklaw10.PointsMoved", spec := "pointsMoved", unfollowed := true, recurses := true, apart := false }
def PointsMovedSaid : Prop := pointsMovedRow.holds Try.pinned (OpenSpec.ofChange pointsMovedSpec)

/-- ITS FALSE NEIGHBOUR: 'it returns false'. Refute it at one input. -/
def pointsMovedWrong : ChangeSpec := { name := "pointsMoved", fn := fun _ => fun
  | [d1, d2, d3, d4] => { results := [.lit (.bool false)], args := [d1, d2, d3, d4] }
  | _ => none }
def PointsMovedWrongFalsely : Prop := pointsMovedRow.holds Try.pinned (OpenSpec.ofChange pointsMovedWrong)

/-- 'quillworklaw10.PointsBack': WHATEVER THE INPUT: true; the input reads as it did. -/
def pointsBackSpec : ChangeSpec := { name := "pointsBack", fn := fun _ => fun
  | [d1, d2, d3, d4, d5, d6] => { results := [.lit (.bool true)], args := [d1, d2, d3, d4, d5, d6] }
  | _ => none }
def pointsBackRow : OpenClaim := { program := "ytpachfdibhnobaa", sum := "dd2ab6f6a5e8bdde05d52b7dab11c40cf0285e9338c6c30042771d4d05ceed53", func := "quillwork/quillworklaw10.PointsBack", spec := "pointsBack", unfollowed := true, recurses := true, apart := false }
def PointsBackSaid : Prop := pointsBackRow.holds Try.pinned (OpenSpec.ofChange pointsBackSpec)

/-- ITS FALSE NEIGHBOUR: 'it returns false'. Refute it at one input. -/
def pointsBackWrong : ChangeSpec := { name := "pointsBack", fn := fun _ => fun
  | [d1, d2, d3, d4, d5, d6] => { results := [.lit (.bool false)], args := [d1, d2, d3, d4, d5, d6] }
  | _ => none }
def PointsBackWrongFalsely : Prop := pointsBackRow.holds Try.pinned (OpenSpec.ofChange pointsBackWrong)

/- THE SECOND FORM. 'bulk': how many values and letters a reading holds, each counted each time it is reached (what is shared counts as often as it is met; a slice's spare places count too). A statement '..UptoSaid' is the law's where the arguments, and the package variables that the reading takes, are together of bulk at most 1048576: NARROWER than '..Said'. Prove '..Said' where nothing that the law and all that it calls make is longer than what came in: it says more and counts as full. Else prove '..UptoSaid'. A law counts once. -/
mutual
def uptoBulk {H : Type} : DataW H → Nat
  | .lit (.string bytes) => bytes.length + 1
  | .lit _ => 1
  | .nil => 1
  | .ptr d => uptoBulk d + 1
  | .slice elems spare => uptoBulkAll elems + uptoBulkAll spare + 1
  | .agg parts => uptoBulkAll parts + 1
  | .iface _ d => uptoBulk d + 1
  | .map entries => uptoBulkEntries entries + 1
  | .held _ => 1
def uptoBulkAll {H : Type} : List (DataW H) → Nat
  | [] => 0
  | d :: r => uptoBulk d + uptoBulkAll r
def uptoBulkEntries {H : Type} : List (Lit × DataW H) → Nat
  | [] => 0
  | x :: r => uptoBulkEntry x + uptoBulkEntries r
def uptoBulkEntry {H : Type} : Lit × DataW H → Nat
  | (.string bytes, d) => bytes.length + uptoBulk d + 1
  | (_, d) => uptoBulk d + 1
 end
def uptoSmall : (H : Type) → List (DataW H) → Bool := fun _ ds => decide (uptoBulkAll ds ≤ 1048576)
def OpenSpec.upto (s : _root_.Go.ChangeSpec) : _root_.Go.OpenSpec := { _root_.Go.OpenSpec.ofChange s with cond := some uptoSmall }

/-- 'quillworklaw10.PointsOrder', WHERE WHAT IT READS IS OF BULK AT MOST 1048576: true; the input reads as it did. -/
def pointsOrderUptoRow : OpenClaim := { program := "ytpachfdibhnobaa", sum := "dd2ab6f6a5e8bdde05d52b7dab11c40cf0285e9338c6c30042771d4d05ceed53", func := "quillwork/quillworklaw10.PointsOrder", spec := "pointsOrder", unfollowed := true, recurses := true, apart := false, narrowed := true }
def PointsOrderUptoSaid : Prop := pointsOrderUptoRow.holds Try.pinned (OpenSpec.upto pointsOrderSpec)

/-- 'quillworklaw10.PointsMoved', WHERE WHAT IT READS IS OF BULK AT MOST 1048576: true; the input reads as it did. -/
def pointsMovedUptoRow : OpenClaim := { program := "ytpachfdibhnobaa", sum := "dd2ab6f6a5e8bdde05d52b7dab11c40cf0285e9338c6c30042771d4d05ceed53", func := "quillwork/quillworklaw10.PointsMoved", spec := "pointsMoved", unfollowed := true, recurses := true, apart := false, narrowed := true }
def PointsMovedUptoSaid : Prop := pointsMovedUptoRow.holds Try.pinned (OpenSpec.upto pointsMovedSpec)

/-- 'quillworklaw10.PointsBack', WHERE WHAT IT READS IS OF BULK AT MOST 1048576: true; the input reads as it did. -/
def pointsBackUptoRow : OpenClaim := { program := "ytpachfdibhnobaa", sum := "dd2ab6f6a5e8bdde05d52b7dab11c40cf0285e9338c6c30042771d4d05ceed53", func := "quillwork/quillworklaw10.PointsBack", spec := "pointsBack", unfollowed := true, recurses := true, apart := false, narrowed := true }
def PointsBackUptoSaid : Prop := pointsBackUptoRow.holds Try.pinned (OpenSpec.upto pointsBackSpec)

end Rows
end Go.Proofs.Ytpachfdibhnobaa
