/-
  NARROWER THAN 'FOR EVERY INPUT', by the rows' own cells (each row's printed sentence says how): DomApart: loops · DomGrafts: loops · DomBack: loops · DomSound: loops · DomPlays: loops.
  DERIVED. THE GIVEN ROWS OF THIS SEAT. 6 by the template 'for every input the law returns true; each argument reads behind the call as it read before'; 0 by the template 'total and deterministic' (their statements: YtjabnkopofieaaaTotals.lean).
  GIVEN WITH THE SEED: the statements are not yours to turn. If you find one false, say at which input.
  Laid BY PROGRAM, IN A SANDBOX (cutbox-rows.mjs): the forced cells as the released guide's own fill.sh prints them over the translation 9f7d442142629b57… (all of the seat's roots in one cut). By AI agents, Wed Nov 11 2026. No macro, syntax, notation, axiom, sorry.
-/
import Derived.Test.YtjabnkopofieaaaChecked
import GoSem.Claim
import GoSem.ClaimJoined
import GoSem.ClaimMapViews
import Derived.JoinedTies
import Derived.KernelRfl
namespace Go.Proofs.Ytjabnkopofieaaa
/- THE CELL 'sum', in the pinned program and in every row, IS THE sha256 OF THE DUMP (.gsa) THAT YtjabnkopofieaaaProg.lean LOADS. Nothing in Lean hashes anything: it is a label: what it is worth is what the hold of that sum in a sandbox is worth. -/
noncomputable def Try.pinned : Pinned := { name := "ytjabnkopofieaaa", sum := "9f7d442142629b579df81935313b3c75a1d82fe8070c0a37642bcbdd0fbc8d4c", checked := Try.checked }
namespace Rows
def none {H : Type} : Left H := { results := [], args := [] }

/-- 'quillworklaw08.DomApart': WHATEVER THE INPUT: true; the input reads as it did. -/
def domApartSpec : ChangeSpec := { name := "domApart", fn := fun _ => fun
  | [d1, d2, d3, d4] => { results := [.lit (.bool true)], args := [d1, d2, d3, d4] }
  | _ => none }
def domApartRow : OpenClaim := { program := "ytjabnkopofieaaa", sum := "9f7d442142629b579df81935313b3c75a1d82fe8070c0a37642bcbdd0fbc8d4c", func := "quillwork/quillworklaw08.DomApart", spec := "domApart", inPlace := ["slices.overlaps[int]"], unfollowed := true, recurses := true, loops := true, apart := false }
def DomApartSaid : Prop := domApartRow.holds Try.pinned (OpenSpec.ofChange domApartSpec)

/-- ITS FALSE NEIGHBOUR: 'it returns false'. Refute it at one input. -/
def domApartWrong : ChangeSpec := { name := "domApart", fn := fun _ => fun
  | [d1, d2, d3, d4] => { results := [.lit (.bool false)], args := [d1, d2, d3, d4] }
  | _ => none }
def DomApartWrongFalsely : Prop := domApartRow.holds Try.pinned (OpenSpec.ofChange domApartWrong)

/-- 'quillworklaw08.DomGrafts': WHATEVER THE INPUT: true; the input reads as it did. -/
def domGraftsSpec : ChangeSpec := { name := "domGrafts", fn := fun _ => fun
  | [d1, d2, d3, d4, d5, d6] => { results := [.lit (.bool true)], args := [d1, d2, d3, d4, d5, d6] }
  | _ => none }
def domGraftsRow : OpenClaim := { program := "ytjabnkopofieaaa", sum := "9f7d442142629b579df81935313b3c75a1d82fe8070c0a37642bcbdd0fbc8d4c", func := "quillwork/quillworklaw08.DomGrafts", spec := "domGrafts", inPlace := ["slices.overlaps[int]"], unfollowed := true, recurses := true, loops := true, apart := false }
def DomGraftsSaid : Prop := domGraftsRow.holds Try.pinned (OpenSpec.ofChange domGraftsSpec)

/-- ITS FALSE NEIGHBOUR: 'it returns false'. Refute it at one input. -/
def domGraftsWrong : ChangeSpec := { name := "domGrafts", fn := fun _ => fun
  | [d1, d2, d3, d4, d5, d6] => { results := [.lit (.bool false)], args := [d1, d2, d3, d4, d5, d6] }
  | _ => none }
def DomGraftsWrongFalsely : Prop := domGraftsRow.holds Try.pinned (OpenSpec.ofChange domGraftsWrong)

/-- 'quillworklaw08.DomBack': WHATEVER THE INPUT: true; the input reads as it did. -/
def domBackSpec : ChangeSpec := { name := "domBack", fn := fun _ => fun
  | [d1, d2, d3, d4, d5, d6] => { results := [.lit (.bool true)], args := [d1, d2, d3, d4, d5, d6] }
  | _ => none }
def domBackRow : OpenClaim := { program := "ytjabnkopofieaaa", sum := "9f7d442142629b579df81935313b3c75a1d82fe8070c0a37642bcbdd0fbc8d4c", func := "quillwork/quillworklaw08.DomBack", spec := "domBack", inPlace := ["slices.overlaps[int]"], unfollowed := true, recurses := true, loops := true, apart := false }
def DomBackSaid : Prop := domBackRow.holds Try.pinned (OpenSpec.ofChange domBackSpec)

/-- ITS FALSE NEIGHBOUR: 'it returns false'. Refute it at one input. -/
def domBackWrong : ChangeSpec := { name := "domBack", fn := fun _ => fun
  | [d1, d2, d3, d4, d5, d6] => { results := [.lit (.bool false)], args := [d1, d2, d3, d4, d5, d6] }
  | _ => none }
def DomBackWrongFalsely : Prop := domBackRow.holds Try.pinned (OpenSpec.ofChange domBackWrong)

/-- 'quillworklaw08.DomSound': WHATEVER THE INPUT: true; the input reads as it did. -/
def domSoundSpec : ChangeSpec := { name := "domSound", fn := fun _ => fun
  | [d1, d2, d3] => { results := [.lit (.bool true)], args := [d1, d2, d3] }
  | _ => none }
def domSoundRow : OpenClaim := { program := "ytjabnkopofieaaa", sum := "9f7d442142629b579df81935313b3c75a1d82fe8070c0a37642bcbdd0fbc8d4c", func := "quillwork/quillworklaw08.DomSound", spec := "domSound", inPlace := ["slices.overlaps[int]"], unfollowed := true, recurses := true, loops := true, apart := false }
def DomSoundSaid : Prop := domSoundRow.holds Try.pinned (OpenSpec.ofChange domSoundSpec)

/-- ITS FALSE NEIGHBOUR: 'it returns false'. Refute it at one input. -/
def domSoundWrong : ChangeSpec := { name := "domSound", fn := fun _ => fun
  | [d1, d2, d3] => { results := [.lit (.bool false)], args := [d1, d2, d3] }
  | _ => none }
def DomSoundWrongFalsely : Prop := domSoundRow.holds Try.pinned (OpenSpec.ofChange domSoundWrong)

/-- 'quillworklaw08.DomPlays': WHATEVER THE INPUT: true; the input reads as it did. -/
def domPlaysSpec : ChangeSpec := { name := "domPlays", fn := fun _ => fun
  | [d1, d2, d3] => { results := [.lit (.bool true)], args := [d1, d2, d3] }
  | _ => none }
def domPlaysRow : OpenClaim := { program := "ytjabnkopofieaaa", sum := "9f7d442142629b579df81935313b3c75a1d82fe8070c0a37642bcbdd0fbc8d4c", func := "quillwork/quillworklaw08.DomPlays", spec := "domPlays", inPlace := ["slices.overlaps[int]"], unfollowed := true, recurses := true, loops := true, apart := false }
def DomPlaysSaid : Prop := domPlaysRow.holds Try.pinned (OpenSpec.ofChange domPlaysSpec)

/-- ITS FALSE NEIGHBOUR: 'it returns false'. Refute it at one input. -/
def domPlaysWrong : ChangeSpec := { name := "domPlays", fn := fun _ => fun
  | [d1, d2, d3] => { results := [.lit (.bool false)], args := [d1, d2, d3] }
  | _ => none }
def DomPlaysWrongFalsely : Prop := domPlaysRow.holds Try.pinned (OpenSpec.ofChange domPlaysWrong)

/-- 'quillworklaw08.DomNobody': WHATEVER THE INPUT: true; the input reads as it did. -/
def domNobodySpec : ChangeSpec := { name := "domNobody", fn := fun _ => fun
  | [] => { results := [.lit (.bool true)], args := [] }
  | _ => none }
def domNobodyRow : OpenClaim := { program := "ytjabnkopofieaaa", sum := "9f7d442142629b579df81935313b3c75a1d82fe8070c0a37642bcbdd0fbc8d4c", func := "quillwork/quillworklaw08.DomNobody", spec := "domNobody", inPlace := ["slices.overlaps[int]"], unfollowed := true, recurses := true, apart := false }
def DomNobodySaid : Prop := domNobodyRow.holds Try.pinned (OpenSpec.ofChange domNobodySpec)

/-- ITS FALSE NEIGHBOUR: 'it returns false'. Refute it at one input. -/
def domNobodyWrong : ChangeSpec := { name := "domNobody", fn := fun _ => fun
  | [] => { results := [.lit (.bool false)], args := [] }
  | _ => none }
def DomNobodyWrongFalsely : Prop := domNobodyRow.holds Try.pinned (OpenSpec.ofChange domNobodyWrong)

/- THE SECOND FORM. 'bulk': how many values and letters a reading holds, each counted each time it is reached (what is shared counts as often as it is met; a slice's spare places count too). A statement '..UptoSaid' is the law's where the arguments, and the package variables that the reading takes, are together of bulk at most 1048576: NARROWER than '..Said'. Prove '..Said' where nothing that the law and all that it calls make is longer than what came in: it says more and counts as full. Else prove '..UptoSaid'. A law counts once. -/
mutual
def uptoBulk {H : Type} : DataW H → Nat
  | .lit (.string bytes) => bytes.length + 1
  | .lit _ => 1
  | .nil => 1
  | .ptr d => uptoBulk d + 1
  | .slice elems spare => uptoBulkAll elems + uptoBulkAll spare + 1
  | .agg parts => uptoBulkAll parts + 1
  | .iface _ d => uptoBulk d + 1
  | .map entries => uptoBulkEntries entries + 1
  | .held _ => 1
def uptoBulkAll {H : Type} : List (DataW H) → Nat
  | [] => 0
  | d :: r => uptoBulk d + uptoBulkAll r
def uptoBulkEntries {H : Type} : List (Lit × DataW H) → Nat
  | [] => 0
  | x :: r => uptoBulkEntry x + uptoBulkEntries r
def uptoBulkEntry {H : Type} : Lit × DataW H → Nat
  | (.string bytes, d) => bytes.length + uptoBulk d + 1
  | (_, d) => uptoBulk d + 1
 end
def uptoSmall : (H : Type) → List (DataW H) → Bool := fun _ ds => decide (uptoBulkAll ds ≤ 1048576)
def OpenSpec.upto (s : _root_.Go.ChangeSpec) : _root_.Go.OpenSpec := { _root_.Go.OpenSpec.ofChange s with cond := some uptoSmall }

/-- 'quillworklaw08.DomApart', WHERE WHAT IT READS IS OF BULK AT MOST 1048576: true; the input reads as it did. -/
def domApartUptoRow : OpenClaim := { program := "ytjabnkopofieaaa", sum := "9f7d442142629b579df81935313b3c75a1d82fe8070c0a37642bcbdd0fbc8d4c", func := "quillwork/quillworklaw08.DomApart", spec := "domApart", inPlace := ["slices.overlaps[int]"], unfollowed := true, recurses := true, loops := true, apart := false, narrowed := true }
def DomApartUptoSaid : Prop := domApartUptoRow.holds Try.pinned (OpenSpec.upto domApartSpec)

/-- 'quillworklaw08.DomGrafts', WHERE WHAT IT READS IS OF BULK AT MOST 1048576: true; the input reads as it did. -/
def domGraftsUptoRow : OpenClaim := { program := "ytjabnkopofieaaa", sum := "9f7d442142629b579df81935313b3c75a1d82fe8070c0a37642bcbdd0fbc8d4c", func := "quillwork/quillworklaw08.DomGrafts", spec := "domGrafts", inPlace := ["slices.overlaps[int]"], unfollowed := true, recurses := true, loops := true, apart := false, narrowed := true }
def DomGraftsUptoSaid : Prop := domGraftsUptoRow.holds Try.pinned (OpenSpec.upto domGraftsSpec)

/-- 'quillworklaw08.DomBack', WHERE WHAT IT READS IS OF BULK AT MOST 1048576: true; the input reads as it did. -/
def domBackUptoRow : OpenClaim := { program := "ytjabnkopofieaaa", sum := "9f7d442142629b579df81935313b3c75a1d82fe8070c0a37642bcbdd0fbc8d4c", func := "quillwork/quillworklaw08.DomBack", spec := "domBack", inPlace := ["slices.overlaps[int]"], unfollowed := true, recurses := true, loops := true, apart := false, narrowed := true }
def DomBackUptoSaid : Prop := domBackUptoRow.holds Try.pinned (OpenSpec.upto domBackSpec)

/-- 'quillworklaw08.DomSound', WHERE WHAT IT READS IS OF BULK AT MOST 1048576: true; the input reads as it did. -/
def domSoundUptoRow : OpenClaim := { program := "ytjabnkopofieaaa", sum := "9f7d442142629b579df81935313b3c75a1d82fe8070c0a37642bcbdd0fbc8d4c", func := "quillwork/quillworklaw08.DomSound", spec := "domSound", inPlace := ["slices.overlaps[int]"], unfollowed := true, recurses := true, loops := true, apart := false, narrowed := true }
def DomSoundUptoSaid : Prop := domSoundUptoRow.holds Try.pinned (OpenSpec.upto domSoundSpec)

/-- 'quillworklaw08.DomPlays', WHERE WHAT IT READS IS OF BULK AT MOST 1048576: true; the input reads as it did. -/
def domPlaysUptoRow : OpenClaim := { program := "ytjabnkopofieaaa", sum := "9f7d442142629b579df81935313b3c75a1d82fe8070c0a37642bcbdd0fbc8d4c", func := "quillwork/quillworklaw08.DomPlays", spec := "domPlays", inPlace := ["slices.overlaps[int]"], unfollowed := true, recurses := true, loops := true, apart := false, narrowed := true }
def DomPlaysUptoSaid : Prop := domPlaysUptoRow.holds Try.pinned (OpenSpec.upto domPlaysSpec)

/-- 'quillworklaw08.DomNobody', WHERE WHAT IT READS IS OF BULK AT MOST 1048576: true; the input reads as it did. -/
def domNobodyUptoRow : OpenClaim := { program := "ytjabnkopofieaaa", sum := "9f7d442142629b579df81935313b3c75a1d82fe8070c0a37642bcbdd0fbc8d4c", func := "quillwork/quillworklaw08.DomNobody", spec := "domNobody", inPlace := ["slices.overlaps[int]"], unfollowed := true, recurses := true, apart := false, narrowed := true }
def DomNobodyUptoSaid : Prop := domNobodyUptoRow.holds Try.pinned (OpenSpec.upto domNobodySpec)

end Rows
end Go.Proofs.Ytjabnkopofieaaa
