/-
  NARROWER THAN 'FOR EVERY INPUT', by the rows' own cells (each row's printed sentence says how): LiveMay: loops · LivePlays: loops · LiveOrder: loops.
  DERIVED. THE GIVEN ROWS OF THIS SEAT. 3 by the template 'for every input the law returns true; each argument reads behind the call as it read before'; 0 by the template 'total and deterministic' (their statements: YthgnbbbdcebjhaaGreatTotals.lean).
  GIVEN WITH THE SEED: the statements are not yours to turn. If you find one false, say at which input.
  Laid BY PROGRAM, IN A SANDBOX (cutbox-rows.mjs): the forced cells as the released guide's own fill.sh prints them over the translation 8cef04dc1a335793… (all of the seat's roots in one cut). By AI agents, Wed Nov 11 2026. No macro, syntax, notation, axiom, sorry.
-/
import Derived.Test.YthgnbbbdcebjhaaGreatChecked
import GoSem.Claim
import GoSem.ClaimJoined
import GoSem.ClaimMapViews
import Derived.JoinedTies
import Derived.KernelRfl
namespace Go.Proofs.YthgnbbbdcebjhaaGreat
/- THE CELL 'sum', in the pinned program and in every row, IS THE sha256 OF THE DUMP (.gsa) THAT YthgnbbbdcebjhaaGreatProg.lean LOADS. Nothing in Lean hashes anything: it is a label: what it is worth is what the hold of that sum in a sandbox is worth. -/
noncomputable def Tryz.pinned : Pinned := { name := "ythgnbbbdcebjhaagreat", sum := "8cef04dc1a335793d67284b4ee3aee7e5be4e3c3349a111e36568841c5f37a8a", checked := Tryz.checked }
namespace Rows
def none {H : Type} : Left H := { results := [], args := [] }

/-- 'quillworklaw11.LiveMay': WHATEVER THE INPUT: true; the input reads as it did. -/
def liveMaySpec : ChangeSpec := { name := "liveMay", fn := fun _ => fun
  | [d1, d2, d3] => { results := [.lit (.bool true)], args := [d1, d2, d3] }
  | _ => none }
def liveMayRow : OpenClaim := { program := "ythgnbbbdcebjhaagreat", sum := "8cef04dc1a335793d67284b4ee3aee7e5be4e3c3349a111e36568841c5f37a8a", func := "quillwork/quillworklaw11.LiveMay", spec := "liveMay", inPlace := ["slices.overlaps[int]"], unfollowed := true, recurses := true, loops := true, apart := false }
def LiveMaySaid : Prop := liveMayRow.holds Tryz.pinned (OpenSpec.ofChange liveMaySpec)

/-- ITS FALSE NEIGHBOUR: 'it returns false'. Refute it at one input. -/
def liveMayWrong : ChangeSpec := { name := "liveMay", fn := fun _ => fun
  | [d1, d2, d3] => { results := [.lit (.bool false)], args := [d1, d2, d3] }
  | _ => none }
def LiveMayWrongFalsely : Prop := liveMayRow.holds Tryz.pinned (OpenSpec.ofChange liveMayWrong)

/-- 'quillworklaw11.LivePlays': WHATEVER THE INPUT: true; the input reads as it did. -/
def livePlaysSpec : ChangeSpec := { name := "livePlays", fn := fun _ => fun
  | [d1, d2, d3] => { results := [.lit (.bool true)], args := [d1, d2, d3] }
  | _ => none }
def livePlaysRow : OpenClaim := { program := "ythgnbbbdcebjhaagreat", sum := "8cef04dc1a335793d67284b4ee3aee7e5be4e3c3349a111e36568841c5f37a8a", func := "quillwork/quillworklaw11.LivePlays", spec := "livePlays", inPlace := ["slices.overlaps[int]"], unfollowed := true, recurses := true, loops := true, apart := false }
def LivePlaysSaid : Prop := livePlaysRow.holds Tryz.pinned (OpenSpec.ofChange livePlaysSpec)

/-- ITS FALSE NEIGHBOUR: 'it returns false'. Refute it at one input. -/
def livePlaysWrong : ChangeSpec := { name := "livePlays", fn := fun _ => fun
  | [d1, d2, d3] => { results := [.lit (.bool false)], args := [d1, d2, d3] }
  | _ => none }
def LivePlaysWrongFalsely : Prop := livePlaysRow.holds Tryz.pinned (OpenSpec.ofChange livePlaysWrong)

/-- 'quillworklaw11.LiveOrder': WHATEVER THE INPUT: true; the input reads as it did. -/
def liveOrderSpec : ChangeSpec := { name := "liveOrder", fn := fun _ => fun
  | [d1, d2, d3, d4, d5, d6] => { results := [.lit (.bool true)], args := [d1, d2, d3, d4, d5, d6] }
  | _ => none }
def liveOrderRow : OpenClaim := { program := "ythgnbbbdcebjhaagreat", sum := "8cef04dc1a335793d67284b4ee3aee7e5be4e3c3349a111e36568841c5f37a8a", func := "quillwork/quillworklaw11.LiveOrder", spec := "liveOrder", inPlace := ["slices.overlaps[int]"], unfollowed := true, recurses := true, loops := true, apart := false }
def LiveOrderSaid : Prop := liveOrderRow.holds Tryz.pinned (OpenSpec.ofChange liveOrderSpec)

/-- ITS FALSE NEIGHBOUR: 'it returns false'. Refute it at one input. -/
def liveOrderWrong : ChangeSpec := { name := "liveOrder", fn := fun _ => fun
  | [d1, d2, d3, d4, d5, d6] => { results := [.lit (.bool false)], args := [d1, d2, d3, d4, d5, d6] }
  | _ => none }
def LiveOrderWrongFalsely : Prop := liveOrderRow.holds Tryz.pinned (OpenSpec.ofChange liveOrderWrong)

/- THE SECOND FORM. 'bulk': how many values and letters a reading holds, each counted each time it is reached (what is shared counts as often as it is met; a slice's spare places count too). A statement '..UptoSaid' is the law's where the arguments, and the package variables that the reading takes, are together of bulk at most 1048576: NARROWER than '..Said'. Prove '..Said' where nothing that the law and all that it calls make is longer than what came in: it says more and counts as full. Else prove '..UptoSaid'. A law counts once. -/
mutual
def uptoBulk {H : Type} : DataW H → Nat
  | .lit (.string bytes) => bytes.length + 1
  | .lit _ => 1
  | .nil => 1
  | .ptr d => uptoBulk d + 1
  | .slice elems spare => uptoBulkAll elems + uptoBulkAll spare + 1
  | .agg parts => uptoBulkAll parts + 1
  | .iface _ d => uptoBulk d + 1
  | .map entries => uptoBulkEntries entries + 1
  | .held _ => 1
def uptoBulkAll {H : Type} : List (DataW H) → Nat
  | [] => 0
  | d :: r => uptoBulk d + uptoBulkAll r
def uptoBulkEntries {H : Type} : List (Lit × DataW H) → Nat
  | [] => 0
  | x :: r => uptoBulkEntry x + uptoBulkEntries r
def uptoBulkEntry {H : Type} : Lit × DataW H → Nat
  | (.string bytes, d) => bytes.length + uptoBulk d + 1
  | (_, d) => uptoBulk d + 1
 end
def uptoSmall : (H : Type) → List (DataW H) → Bool := fun _ ds => decide (uptoBulkAll ds ≤ 1048576)
def OpenSpec.upto (s : _root_.Go.ChangeSpec) : _root_.Go.OpenSpec := { _root_.Go.OpenSpec.ofChange s with cond := some uptoSmall }

/-- 'quillworklaw11.LiveMay', WHERE WHAT IT READS IS OF BULK AT MOST 1048576: true; the input reads as it did. -/
def liveMayUptoRow : OpenClaim := { program := "ythgnbbbdcebjhaagreat", sum := "8cef04dc1a335793d67284b4ee3aee7e5be4e3c3349a111e36568841c5f37a8a", func := "quillwork/quillworklaw11.LiveMay", spec := "liveMay", inPlace := ["slices.overlaps[int]"], unfollowed := true, recurses := true, loops := true, apart := false, narrowed := true }
def LiveMayUptoSaid : Prop := liveMayUptoRow.holds Tryz.pinned (OpenSpec.upto liveMaySpec)

/-- 'quillworklaw11.LivePlays', WHERE WHAT IT READS IS OF BULK AT MOST 1048576: true; the input reads as it did. -/
def livePlaysUptoRow : OpenClaim := { program := "ythgnbbbdcebjhaagreat", sum := "8cef04dc1a335793d67284b4ee3aee7e5be4e3c3349a111e36568841c5f37a8a", func := "quillwork/quillworklaw11.LivePlays", spec := "livePlays", inPlace := ["slices.overlaps[int]"], unfollowed := true, recurses := true, loops := true, apart := false, narrowed := true }
def LivePlaysUptoSaid : Prop := livePlaysUptoRow.holds Tryz.pinned (OpenSpec.upto livePlaysSpec)

/-- 'quillworklaw11.LiveOrder', WHERE WHAT IT READS IS OF BULK AT MOST 1048576: true; the input reads as it did. -/
def liveOrderUptoRow : OpenClaim := { program := "ythgnbbbdcebjhaagreat", sum := "8cef04dc1a335793d67284b4ee3aee7e5be4e3c3349a111e36568841c5f37a8a", func := "quillwork/quillworklaw11.LiveOrder", spec := "liveOrder", inPlace := ["slices.overlaps[int]"], unfollowed := true, recurses := true, loops := true, apart := false, narrowed := true }
def LiveOrderUptoSaid : Prop := liveOrderUptoRow.holds Tryz.pinned (OpenSpec.upto liveOrderSpec)

end Rows
end Go.Proofs.YthgnbbbdcebjhaaGreat
