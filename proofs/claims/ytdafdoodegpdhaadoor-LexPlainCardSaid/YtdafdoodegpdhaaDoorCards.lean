/-
  DERIVED. GIVEN WITH THE SEED: THE CARDS: each row of YtdafdoodegpdhaaDoorRows.lean that lists a variable, with what it lists TIED to the program's text (the seventh form; the later family's looks); each row that meets fmt, with fmt's text TOLD by the authors' own Lean function (tested against real Go, not proved from fmt's source: count such statements apart). THE CARD IS WHAT COUNTS. Prove the row's statement (the work); the ties are given (YtdafdoodegpdhaaDoorTie.lean); close each card by the builder's one call (the guide's Derived/Test/ToyasCard.lean, 'card_holds'). Laid BY PROGRAM, IN A SANDBOX (cutbox-door.mjs). By AI agents, Wed Nov 11 2026. No macro, syntax, notation, axiom, sorry.
-/
import Derived.Test.YtdafdoodegpdhaaDoorRows
import GoSem.ClaimSeven
namespace Go.Proofs.YtdafdoodegpdhaaDoor
namespace Rows

/-- THE TIED CARD OF 'quillworklaw16.PrintMarkup'. -/
def printMarkupCard : Claim7 := { stood := { row := printMarkupRow, standIns := [], harness := (true, "d62fb77ad67d2ade042a2384c183745e3cee381786eda3f6e19c362946904590"), looks := true }, kinds := [], alts := [], laidByText := true, laidKinds := [.data, .pinned], laidTests := true, laidLooks := .later }
def PrintMarkupCardSaid : Prop := Claim7.holds Tryd.pinned (.plain (OpenSpec.ofChange printMarkupSpec)) printMarkupCard

/-- THE TIED CARD OF 'quillworklaw16.PrintParts'. -/
def printPartsCard : Claim7 := { stood := { row := printPartsRow, standIns := [], harness := (true, "d62fb77ad67d2ade042a2384c183745e3cee381786eda3f6e19c362946904590"), looks := true }, kinds := [], alts := [], laidByText := true, laidKinds := [.data, .pinned], laidTests := true, laidLooks := .later }
def PrintPartsCardSaid : Prop := Claim7.holds Tryd.pinned (.plain (OpenSpec.ofChange printPartsSpec)) printPartsCard

/-- THE TIED CARD OF 'quillworklaw14.LexDecode'. -/
def lexDecodeCard : Claim7 := { stood := { row := lexDecodeRow, standIns := [], harness := (true, "d62fb77ad67d2ade042a2384c183745e3cee381786eda3f6e19c362946904590"), looks := true }, kinds := [], alts := [], laidByText := true, laidKinds := [.data, .data, .data, .data, .sentinel, .sentinel, .pinned], laidTests := true, laidLooks := .later }
def LexDecodeCardSaid : Prop := Claim7.holds Tryd.pinned (.plain (OpenSpec.ofChange lexDecodeSpec)) lexDecodeCard

/-- THE TIED CARD OF 'quillworklaw14.LexRises'. -/
def lexRisesCard : Claim7 := { stood := { row := lexRisesRow, standIns := [], harness := (true, "d62fb77ad67d2ade042a2384c183745e3cee381786eda3f6e19c362946904590"), looks := true }, kinds := [], alts := [], laidByText := true, laidKinds := [.data, .data, .data, .data, .sentinel, .sentinel, .pinned], laidTests := true, laidLooks := .later }
def LexRisesCardSaid : Prop := Claim7.holds Tryd.pinned (.plain (OpenSpec.ofChange lexRisesSpec)) lexRisesCard

/-- THE TIED CARD OF 'quillworklaw14.LexPlain'. -/
def lexPlainCard : Claim7 := { stood := { row := lexPlainRow, standIns := [], harness := (true, "d62fb77ad67d2ade042a2384c183745e3cee381786eda3f6e19c362946904590"), looks := true }, kinds := [], alts := [], laidByText := true, laidKinds := [.data, .data, .data, .data, .sentinel, .sentinel, .pinned], laidTests := true, laidLooks := .later }
def LexPlainCardSaid : Prop := Claim7.holds Tryd.pinned (.plain (OpenSpec.ofChange lexPlainSpec)) lexPlainCard

/-- THE SECOND FORM's CARD OF 'quillworklaw16.PrintMarkup'. -/
def printMarkupUptoCard : Claim7 := { stood := { row := printMarkupUptoRow, standIns := [], harness := (true, "d62fb77ad67d2ade042a2384c183745e3cee381786eda3f6e19c362946904590"), looks := true }, kinds := [], alts := [], laidByText := true, laidKinds := [.data, .pinned], laidTests := true, laidLooks := .later }
def PrintMarkupUptoCardSaid : Prop := Claim7.holds Tryd.pinned (.plain (OpenSpec.upto printMarkupSpec)) printMarkupUptoCard

/-- THE SECOND FORM's CARD OF 'quillworklaw16.PrintParts'. -/
def printPartsUptoCard : Claim7 := { stood := { row := printPartsUptoRow, standIns := [], harness := (true, "d62fb77ad67d2ade042a2384c183745e3cee381786eda3f6e19c362946904590"), looks := true }, kinds := [], alts := [], laidByText := true, laidKinds := [.data, .pinned], laidTests := true, laidLooks := .later }
def PrintPartsUptoCardSaid : Prop := Claim7.holds Tryd.pinned (.plain (OpenSpec.upto printPartsSpec)) printPartsUptoCard

/-- THE SECOND FORM's CARD OF 'quillworklaw14.LexDecode'. -/
def lexDecodeUptoCard : Claim7 := { stood := { row := lexDecodeUptoRow, standIns := [], harness := (true, "d62fb77ad67d2ade042a2384c183745e3cee381786eda3f6e19c362946904590"), looks := true }, kinds := [], alts := [], laidByText := true, laidKinds := [.data, .data, .data, .data, .sentinel, .sentinel, .pinned], laidTests := true, laidLooks := .later }
def LexDecodeUptoCardSaid : Prop := Claim7.holds Tryd.pinned (.plain (OpenSpec.upto lexDecodeSpec)) lexDecodeUptoCard

/-- THE SECOND FORM's CARD OF 'quillworklaw14.LexRises'. -/
def lexRisesUptoCard : Claim7 := { stood := { row := lexRisesUptoRow, standIns := [], harness := (true, "d62fb77ad67d2ade042a2384c183745e3cee381786eda3f6e19c362946904590"), looks := true }, kinds := [], alts := [], laidByText := true, laidKinds := [.data, .data, .data, .data, .sentinel, .sentinel, .pinned], laidTests := true, laidLooks := .later }
def LexRisesUptoCardSaid : Prop := Claim7.holds Tryd.pinned (.plain (OpenSpec.upto lexRisesSpec)) lexRisesUptoCard

/-- THE SECOND FORM's CARD OF 'quillworklaw14.LexPlain'. -/
def lexPlainUptoCard : Claim7 := { stood := { row := lexPlainUptoRow, standIns := [], harness := (true, "d62fb77ad67d2ade042a2384c183745e3cee381786eda3f6e19c362946904590"), looks := true }, kinds := [], alts := [], laidByText := true, laidKinds := [.data, .data, .data, .data, .sentinel, .sentinel, .pinned], laidTests := true, laidLooks := .later }
def LexPlainUptoCardSaid : Prop := Claim7.holds Tryd.pinned (.plain (OpenSpec.upto lexPlainSpec)) lexPlainUptoCard
end Rows
end Go.Proofs.YtdafdoodegpdhaaDoor
