/-
  DERIVED. GIVEN WITH THE SEED: THE CARDS: each row of YtdafdoodegpdhaaGreatDoorRows.lean that lists a variable, with what it lists TIED to the program's text (the seventh form; the later family's looks); each row that meets fmt, with fmt's text TOLD by the authors' own Lean function (tested against real Go, not proved from fmt's source: count such statements apart). THE CARD IS WHAT COUNTS. Prove the row's statement (the work); the ties are given (YtdafdoodegpdhaaGreatDoorTie.lean); close each card by the builder's one call (the guide's Derived/Test/ToyasCard.lean, 'card_holds'). Laid BY PROGRAM, IN A SANDBOX (cutbox-door.mjs). By AI agents, Wed Nov 11 2026. No macro, syntax, notation, axiom, sorry.
-/
import Derived.Test.YtdafdoodegpdhaaGreatDoorRows
import GoSem.ClaimSeven
namespace Go.Proofs.YtdafdoodegpdhaaGreatDoor
namespace Rows

/-- THE TIED CARD OF 'quillworklaw14.LexAll'. -/
def lexAllCard : Claim7 := { stood := { row := lexAllRow, standIns := [], harness := (true, "eb2f9896a3ef58d22fe7c2d30cfafb6d1289e2955ec0cd42685cb059f8bad086"), looks := true }, kinds := [], alts := [], laidByText := true, laidKinds := [.data, .data, .data, .data, .sentinel, .sentinel, .pinned], laidTests := true, laidLooks := .later }
def LexAllCardSaid : Prop := Claim7.holds Tryz.pinned (.plain (OpenSpec.ofChange lexAllSpec)) lexAllCard

/-- THE SECOND FORM's CARD OF 'quillworklaw14.LexAll'. -/
def lexAllUptoCard : Claim7 := { stood := { row := lexAllUptoRow, standIns := [], harness := (true, "eb2f9896a3ef58d22fe7c2d30cfafb6d1289e2955ec0cd42685cb059f8bad086"), looks := true }, kinds := [], alts := [], laidByText := true, laidKinds := [.data, .data, .data, .data, .sentinel, .sentinel, .pinned], laidTests := true, laidLooks := .later }
def LexAllUptoCardSaid : Prop := Claim7.holds Tryz.pinned (.plain (OpenSpec.upto lexAllSpec)) lexAllUptoCard
end Rows
end Go.Proofs.YtdafdoodegpdhaaGreatDoor
