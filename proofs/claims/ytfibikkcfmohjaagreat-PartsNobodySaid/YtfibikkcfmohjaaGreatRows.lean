/-
  NARROWER THAN 'FOR EVERY INPUT', by the rows' own cells (each row's printed sentence says how): PartsText: loops · PartsMoves: loops · RangesSplits: loops · RangesTakes: loops · RangesBack: loops.
  DERIVED. THE GIVEN ROWS OF THIS SEAT. 7 by the template 'for every input the law returns true; each argument reads behind the call as it read before'; 0 by the template 'total and deterministic' (their statements: YtfibikkcfmohjaaGreatTotals.lean).
  GIVEN WITH THE SEED: the statements are not yours to turn. If you find one false, say at which input.
  Laid BY PROGRAM, IN A SANDBOX (cutbox-rows.mjs): the forced cells as the released guide's own fill.sh prints them over the translation 2d50c0b923ecbd31… (all of the seat's roots in one cut). By AI agents, Wed Nov 11 2026. No macro, syntax, notation, axiom, sorry.
-/
import Derived.Test.YtfibikkcfmohjaaGreatChecked
import GoSem.Claim
import GoSem.ClaimJoined
import GoSem.ClaimMapViews
import Derived.JoinedTies
import Derived.KernelRfl
namespace Go.Proofs.YtfibikkcfmohjaaGreat
/- THE CELL 'sum', in the pinned program and in every row, IS THE sha256 OF THE DUMP (.gsa) THAT YtfibikkcfmohjaaGreatProg.lean LOADS. Nothing in Lean hashes anything: it is a label: what it is worth is what the hold of that sum in a sandbox is worth. -/
noncomputable def Tryz.pinned : Pinned := { name := "ytfibikkcfmohjaagreat", sum := "2d50c0b923ecbd3138e4bb2e9c6881f5bcef38150d3fd2279b143439fd319b51", checked := Tryz.checked }
namespace Rows
def none {H : Type} : Left H := { results := [], args := [] }

/-- 'quillworklaw12.PartsNobody': WHATEVER THE INPUT: true; the input reads as it did. -/
def partsNobodySpec : ChangeSpec := { name := "partsNobody", fn := fun _ => fun
  | [] => { results := [.lit (.bool true)], args := [] }
  | _ => none }
def partsNobodyRow : OpenClaim := { program := "ytfibikkcfmohjaagreat", sum := "2d50c0b923ecbd3138e4bb2e9c6881f5bcef38150d3fd2279b143439fd319b51", func := "quillwork/quillworklaw12.PartsNobody", spec := "partsNobody", inPlace := ["slices.overlaps[int]", "internal/abi.NoEscape"], unfollowed := true, recurses := true, apart := false }
def PartsNobodySaid : Prop := partsNobodyRow.holds Tryz.pinned (OpenSpec.ofChange partsNobodySpec)

/-- ITS FALSE NEIGHBOUR: 'it returns false'. Refute it at one input. -/
def partsNobodyWrong : ChangeSpec := { name := "partsNobody", fn := fun _ => fun
  | [] => { results := [.lit (.bool false)], args := [] }
  | _ => none }
def PartsNobodyWrongFalsely : Prop := partsNobodyRow.holds Tryz.pinned (OpenSpec.ofChange partsNobodyWrong)

/-- 'quillworklaw12.PartsText': WHATEVER THE INPUT: true; the input reads as it did. -/
def partsTextSpec : ChangeSpec := { name := "partsText", fn := fun _ => fun
  | [d1, d2, d3, d4] => { results := [.lit (.bool true)], args := [d1, d2, d3, d4] }
  | _ => none }
def partsTextRow : OpenClaim := { program := "ytfibikkcfmohjaagreat", sum := "2d50c0b923ecbd3138e4bb2e9c6881f5bcef38150d3fd2279b143439fd319b51", func := "quillwork/quillworklaw12.PartsText", spec := "partsText", inPlace := ["slices.overlaps[int]", "internal/abi.NoEscape"], unfollowed := true, recurses := true, loops := true, apart := false }
def PartsTextSaid : Prop := partsTextRow.holds Tryz.pinned (OpenSpec.ofChange partsTextSpec)

/-- ITS FALSE NEIGHBOUR: 'it returns false'. Refute it at one input. -/
def partsTextWrong : ChangeSpec := { name := "partsText", fn := fun _ => fun
  | [d1, d2, d3, d4] => { results := [.lit (.bool false)], args := [d1, d2, d3, d4] }
  | _ => none }
def PartsTextWrongFalsely : Prop := partsTextRow.holds Tryz.pinned (OpenSpec.ofChange partsTextWrong)

/-- 'quillworklaw12.PartsMoves': WHATEVER THE INPUT: true; the input reads as it did. -/
def partsMovesSpec : ChangeSpec := { name := "partsMoves", fn := fun _ => fun
  | [d1, d2, d3, d4, d5, d6, d7, d8] => { results := [.lit (.bool true)], args := [d1, d2, d3, d4, d5, d6, d7, d8] }
  | _ => none }
def partsMovesRow : OpenClaim := { program := "ytfibikkcfmohjaagreat", sum := "2d50c0b923ecbd3138e4bb2e9c6881f5bcef38150d3fd2279b143439fd319b51", func := "quillwork/quillworklaw12.PartsMoves", spec := "partsMoves", inPlace := ["slices.overlaps[int]", "internal/abi.NoEscape"], unfollowed := true, recurses := true, loops := true, apart := false }
def PartsMovesSaid : Prop := partsMovesRow.holds Tryz.pinned (OpenSpec.ofChange partsMovesSpec)

/-- ITS FALSE NEIGHBOUR: 'it returns false'. Refute it at one input. -/
def partsMovesWrong : ChangeSpec := { name := "partsMoves", fn := fun _ => fun
  | [d1, d2, d3, d4, d5, d6, d7, d8] => { results := [.lit (.bool false)], args := [d1, d2, d3, d4, d5, d6, d7, d8] }
  | _ => none }
def PartsMovesWrongFalsely : Prop := partsMovesRow.holds Tryz.pinned (OpenSpec.ofChange partsMovesWrong)

/-- 'quillworklaw13.RangesNobody': WHATEVER THE INPUT: true; the input reads as it did. -/
def rangesNobodySpec : ChangeSpec := { name := "rangesNobody", fn := fun _ => fun
  | [] => { results := [.lit (.bool true)], args := [] }
  | _ => none }
def rangesNobodyRow : OpenClaim := { program := "ytfibikkcfmohjaagreat", sum := "2d50c0b923ecbd3138e4bb2e9c6881f5bcef38150d3fd2279b143439fd319b51", func := "quillwork/quillworklaw13.RangesNobody", spec := "rangesNobody", inPlace := ["internal/abi.NoEscape", "slices.overlaps[int]"], unfollowed := true, recurses := true, apart := false }
def RangesNobodySaid : Prop := rangesNobodyRow.holds Tryz.pinned (OpenSpec.ofChange rangesNobodySpec)

/-- ITS FALSE NEIGHBOUR: 'it returns false'. Refute it at one input. -/
def rangesNobodyWrong : ChangeSpec := { name := "rangesNobody", fn := fun _ => fun
  | [] => { results := [.lit (.bool false)], args := [] }
  | _ => none }
def RangesNobodyWrongFalsely : Prop := rangesNobodyRow.holds Tryz.pinned (OpenSpec.ofChange rangesNobodyWrong)

/-- 'quillworklaw13.RangesSplits': WHATEVER THE INPUT: true; the input reads as it did. -/
def rangesSplitsSpec : ChangeSpec := { name := "rangesSplits", fn := fun _ => fun
  | [d1, d2, d3, d4, d5, d6] => { results := [.lit (.bool true)], args := [d1, d2, d3, d4, d5, d6] }
  | _ => none }
def rangesSplitsRow : OpenClaim := { program := "ytfibikkcfmohjaagreat", sum := "2d50c0b923ecbd3138e4bb2e9c6881f5bcef38150d3fd2279b143439fd319b51", func := "quillwork/quillworklaw13.RangesSplits", spec := "rangesSplits", inPlace := ["slices.overlaps[int]", "internal/abi.NoEscape"], unfollowed := true, recurses := true, loops := true, apart := false }
def RangesSplitsSaid : Prop := rangesSplitsRow.holds Tryz.pinned (OpenSpec.ofChange rangesSplitsSpec)

/-- ITS FALSE NEIGHBOUR: 'it returns false'. Refute it at one input. -/
def rangesSplitsWrong : ChangeSpec := { name := "rangesSplits", fn := fun _ => fun
  | [d1, d2, d3, d4, d5, d6] => { results := [.lit (.bool false)], args := [d1, d2, d3, d4, d5, d6] }
  | _ => none }
def RangesSplitsWrongFalsely : Prop := rangesSplitsRow.holds Tryz.pinned (OpenSpec.ofChange rangesSplitsWrong)

/-- 'quillworklaw13.RangesTakes': WHATEVER THE INPUT: true; the input reads as it did. -/
def rangesTakesSpec : ChangeSpec := { name := "rangesTakes", fn := fun _ => fun
  | [d1, d2, d3, d4, d5] => { results := [.lit (.bool true)], args := [d1, d2, d3, d4, d5] }
  | _ => none }
def rangesTakesRow : OpenClaim := { program := "ytfibikkcfmohjaagreat", sum := "2d50c0b923ecbd3138e4bb2e9c6881f5bcef38150d3fd2279b143439fd319b51", func := "quillwork/quillworklaw13.RangesTakes", spec := "rangesTakes", inPlace := ["slices.overlaps[int]", "internal/abi.NoEscape"], unfollowed := true, recurses := true, loops := true, apart := false }
def RangesTakesSaid : Prop := rangesTakesRow.holds Tryz.pinned (OpenSpec.ofChange rangesTakesSpec)

/-- ITS FALSE NEIGHBOUR: 'it returns false'. Refute it at one input. -/
def rangesTakesWrong : ChangeSpec := { name := "rangesTakes", fn := fun _ => fun
  | [d1, d2, d3, d4, d5] => { results := [.lit (.bool false)], args := [d1, d2, d3, d4, d5] }
  | _ => none }
def RangesTakesWrongFalsely : Prop := rangesTakesRow.holds Tryz.pinned (OpenSpec.ofChange rangesTakesWrong)

/-- 'quillworklaw13.RangesBack': WHATEVER THE INPUT: true; the input reads as it did. -/
def rangesBackSpec : ChangeSpec := { name := "rangesBack", fn := fun _ => fun
  | [d1, d2, d3, d4, d5] => { results := [.lit (.bool true)], args := [d1, d2, d3, d4, d5] }
  | _ => none }
def rangesBackRow : OpenClaim := { program := "ytfibikkcfmohjaagreat", sum := "2d50c0b923ecbd3138e4bb2e9c6881f5bcef38150d3fd2279b143439fd319b51", func := "quillwork/quillworklaw13.RangesBack", spec := "rangesBack", inPlace := ["slices.overlaps[int]", "internal/abi.NoEscape"], unfollowed := true, recurses := true, loops := true, apart := false }
def RangesBackSaid : Prop := rangesBackRow.holds Tryz.pinned (OpenSpec.ofChange rangesBackSpec)

/-- ITS FALSE NEIGHBOUR: 'it returns false'. Refute it at one input. -/
def rangesBackWrong : ChangeSpec := { name := "rangesBack", fn := fun _ => fun
  | [d1, d2, d3, d4, d5] => { results := [.lit (.bool false)], args := [d1, d2, d3, d4, d5] }
  | _ => none }
def RangesBackWrongFalsely : Prop := rangesBackRow.holds Tryz.pinned (OpenSpec.ofChange rangesBackWrong)

/- THE SECOND FORM. 'bulk': how many values and letters a reading holds, each counted each time it is reached (what is shared counts as often as it is met; a slice's spare places count too). A statement '..UptoSaid' is the law's where the arguments, and the package variables that the reading takes, are together of bulk at most 1048576: NARROWER than '..Said'. Prove '..Said' where nothing that the law and all that it calls make is longer than what came in: it says more and counts as full. Else prove '..UptoSaid'. A law counts once. -/
mutual
def uptoBulk {H : Type} : DataW H → Nat
  | .lit (.string bytes) => bytes.length + 1
  | .lit _ => 1
  | .nil => 1
  | .ptr d => uptoBulk d + 1
  | .slice elems spare => uptoBulkAll elems + uptoBulkAll spare + 1
  | .agg parts => uptoBulkAll parts + 1
  | .iface _ d => uptoBulk d + 1
  | .map entries => uptoBulkEntries entries + 1
  | .held _ => 1
def uptoBulkAll {H : Type} : List (DataW H) → Nat
  | [] => 0
  | d :: r => uptoBulk d + uptoBulkAll r
def uptoBulkEntries {H : Type} : List (Lit × DataW H) → Nat
  | [] => 0
  | x :: r => uptoBulkEntry x + uptoBulkEntries r
def uptoBulkEntry {H : Type} : Lit × DataW H → Nat
  | (.string bytes, d) => bytes.length + uptoBulk d + 1
  | (_, d) => uptoBulk d + 1
 end
def uptoSmall : (H : Type) → List (DataW H) → Bool := fun _ ds => decide (uptoBulkAll ds ≤ 1048576)
def OpenSpec.upto (s : _root_.Go.ChangeSpec) : _root_.Go.OpenSpec := { _root_.Go.OpenSpec.ofChange s with cond := some uptoSmall }

/-- 'quillworklaw12.PartsNobody', WHERE WHAT IT READS IS OF BULK AT MOST 1048576: true; the input reads as it did. -/
def partsNobodyUptoRow : OpenClaim := { program := "ytfibikkcfmohjaagreat", sum := "2d50c0b923ecbd3138e4bb2e9c6881f5bcef38150d3fd2279b143439fd319b51", func := "quillwork/quillworklaw12.PartsNobody", spec := "partsNobody", inPlace := ["slices.overlaps[int]", "internal/abi.NoEscape"], unfollowed := true, recurses := true, apart := false, narrowed := true }
def PartsNobodyUptoSaid : Prop := partsNobodyUptoRow.holds Tryz.pinned (OpenSpec.upto partsNobodySpec)

/-- 'quillworklaw12.PartsText', WHERE WHAT IT READS IS OF BULK AT MOST 1048576: true; the input reads as it did. -/
def partsTextUptoRow : OpenClaim := { program := "ytfibikkcfmohjaagreat", sum := "2d50c0b923ecbd3138e4bb2e9c6881f5bcef38150d3fd2279b143439fd319b51", func := "quillwork/quillworklaw12.PartsText", spec := "partsText", inPlace := ["slices.overlaps[int]", "internal/abi.NoEscape"], unfollowed := true, recurses := true, loops := true, apart := false, narrowed := true }
def PartsTextUptoSaid : Prop := partsTextUptoRow.holds Tryz.pinned (OpenSpec.upto partsTextSpec)

/-- 'quillworklaw12.PartsMoves', WHERE WHAT IT READS IS OF BULK AT MOST 1048576: true; the input reads as it did. -/
def partsMovesUptoRow : OpenClaim := { program := "ytfibikkcfmohjaagreat", sum := "2d50c0b923ecbd3138e4bb2e9c6881f5bcef38150d3fd2279b143439fd319b51", func := "quillwork/quillworklaw12.PartsMoves", spec := "partsMoves", inPlace := ["slices.overlaps[int]", "internal/abi.NoEscape"], unfollowed := true, recurses := true, loops := true, apart := false, narrowed := true }
def PartsMovesUptoSaid : Prop := partsMovesUptoRow.holds Tryz.pinned (OpenSpec.upto partsMovesSpec)

/-- 'quillworklaw13.RangesNobody', WHERE WHAT IT READS IS OF BULK AT MOST 1048576: true; the input reads as it did. -/
def rangesNobodyUptoRow : OpenClaim := { program := "ytfibikkcfmohjaagreat", sum := "2d50c0b923ecbd3138e4bb2e9c6881f5bcef38150d3fd2279b143439fd319b51", func := "quillwork/quillworklaw13.RangesNobody", spec := "rangesNobody", inPlace := ["internal/abi.NoEscape", "slices.overlaps[int]"], unfollowed := true, recurses := true, apart := false, narrowed := true }
def RangesNobodyUptoSaid : Prop := rangesNobodyUptoRow.holds Tryz.pinned (OpenSpec.upto rangesNobodySpec)

/-- 'quillworklaw13.RangesSplits', WHERE WHAT IT READS IS OF BULK AT MOST 1048576: true; the input reads as it did. -/
def rangesSplitsUptoRow : OpenClaim := { program := "ytfibikkcfmohjaagreat", sum := "2d50c0b923ecbd3138e4bb2e9c6881f5bcef38150d3fd2279b143439fd319b51", func := "quillwork/quillworklaw13.RangesSplits", spec := "rangesSplits", inPlace := ["slices.overlaps[int]", "internal/abi.NoEscape"], unfollowed := true, recurses := true, loops := true, apart := false, narrowed := true }
def RangesSplitsUptoSaid : Prop := rangesSplitsUptoRow.holds Tryz.pinned (OpenSpec.upto rangesSplitsSpec)

/-- 'quillworklaw13.RangesTakes', WHERE WHAT IT READS IS OF BULK AT MOST 1048576: true; the input reads as it did. -/
def rangesTakesUptoRow : OpenClaim := { program := "ytfibikkcfmohjaagreat", sum := "2d50c0b923ecbd3138e4bb2e9c6881f5bcef38150d3fd2279b143439fd319b51", func := "quillwork/quillworklaw13.RangesTakes", spec := "rangesTakes", inPlace := ["slices.overlaps[int]", "internal/abi.NoEscape"], unfollowed := true, recurses := true, loops := true, apart := false, narrowed := true }
def RangesTakesUptoSaid : Prop := rangesTakesUptoRow.holds Tryz.pinned (OpenSpec.upto rangesTakesSpec)

/-- 'quillworklaw13.RangesBack', WHERE WHAT IT READS IS OF BULK AT MOST 1048576: true; the input reads as it did. -/
def rangesBackUptoRow : OpenClaim := { program := "ytfibikkcfmohjaagreat", sum := "2d50c0b923ecbd3138e4bb2e9c6881f5bcef38150d3fd2279b143439fd319b51", func := "quillwork/quillworklaw13.RangesBack", spec := "rangesBack", inPlace := ["slices.overlaps[int]", "internal/abi.NoEscape"], unfollowed := true, recurses := true, loops := true, apart := false, narrowed := true }
def RangesBackUptoSaid : Prop := rangesBackUptoRow.holds Tryz.pinned (OpenSpec.upto rangesBackSpec)

end Rows
end Go.Proofs.YtfibikkcfmohjaaGreat
