/-
  DERIVED. GIVEN WITH THE SEED: THE CARDS: each row of YtalaajbajgdglaaGreatDoorRows.lean that lists a variable, with what it lists TIED to the program's text (the seventh form; the later family's looks); each row that meets fmt, with fmt's text TOLD by the authors' own Lean function (tested against real Go, not proved from fmt's source: count such statements apart). THE CARD IS WHAT COUNTS. Prove the row's statement (the work); the ties are given (YtalaajbajgdglaaGreatDoorTie.lean); close each card by the builder's one call (the guide's Derived/Test/ToyasCard.lean, 'card_holds'). Laid BY PROGRAM, IN A SANDBOX (cutbox-door.mjs). By AI agents, Wed Nov 11 2026. No macro, syntax, notation, axiom, sorry.
-/
import Derived.Test.YtalaajbajgdglaaGreatDoorRows
import GoSem.ClaimSeven
namespace Go.Proofs.YtalaajbajgdglaaGreatDoor
namespace Rows

/-- THE TIED CARD OF 'quillworklaw15.BuildHost'. -/
def buildHostCard : Claim7 := { stood := { row := buildHostRow, standIns := [], harness := (true, "1fd83340d936cac109c867a686be41816475d16dbc62231259395501b5fbc647"), looks := true }, kinds := [], alts := [], laidByText := true, laidKinds := [.data, .data, .data, .data, .sentinel, .sentinel, .pinned], laidTests := true, laidLooks := .later }
def BuildHostCardSaid : Prop := Claim7.holds Tryz.pinned (.plain (OpenSpec.ofChange buildHostSpec)) buildHostCard

/-- THE TIED CARD OF 'quillworklaw15.BuildNotes'. -/
def buildNotesCard : Claim7 := { stood := { row := buildNotesRow, standIns := [], harness := (true, "1fd83340d936cac109c867a686be41816475d16dbc62231259395501b5fbc647"), looks := true }, kinds := [], alts := [], laidByText := true, laidKinds := [.data, .data, .data, .data, .sentinel, .sentinel, .pinned], laidTests := true, laidLooks := .later }
def BuildNotesCardSaid : Prop := Claim7.holds Tryz.pinned (.plain (OpenSpec.ofChange buildNotesSpec)) buildNotesCard

/-- THE TIED CARD OF 'quillworklaw16.PrintBack'. -/
def printBackCard : Claim7 := { stood := { row := printBackRow, standIns := [], harness := (true, "1fd83340d936cac109c867a686be41816475d16dbc62231259395501b5fbc647"), looks := true }, kinds := [], alts := [], laidByText := true, laidKinds := [.data, .data, .data, .data, .sentinel, .sentinel, .pinned], laidTests := true, laidLooks := .later }
def PrintBackCardSaid : Prop := Claim7.holds Tryz.pinned (.plain (OpenSpec.ofChange printBackSpec)) printBackCard

/-- THE TIED CARD OF 'quillworklaw16.PrintBuilt'. -/
def printBuiltCard : Claim7 := { stood := { row := printBuiltRow, standIns := [], harness := (true, "1fd83340d936cac109c867a686be41816475d16dbc62231259395501b5fbc647"), looks := true }, kinds := [], alts := [], laidByText := true, laidKinds := [.data, .data, .data, .data, .sentinel, .sentinel, .pinned], laidTests := true, laidLooks := .later }
def PrintBuiltCardSaid : Prop := Claim7.holds Tryz.pinned (.plain (OpenSpec.ofChange printBuiltSpec)) printBuiltCard

/-- THE TIED CARD OF 'quillworklaw16.PrintBeside'. -/
def printBesideCard : Claim7 := { stood := { row := printBesideRow, standIns := [], harness := (true, "1fd83340d936cac109c867a686be41816475d16dbc62231259395501b5fbc647"), looks := true }, kinds := [], alts := [], laidByText := true, laidKinds := [.data, .data, .data, .data, .sentinel, .sentinel, .pinned], laidTests := true, laidLooks := .later }
def PrintBesideCardSaid : Prop := Claim7.holds Tryz.pinned (.plain (OpenSpec.ofChange printBesideSpec)) printBesideCard

/-- THE TIED CARD OF 'quillworklaw15.BuildSound'. -/
def buildSoundCard : Claim7 := { stood := { row := buildSoundRow, standIns := [], harness := (true, "1fd83340d936cac109c867a686be41816475d16dbc62231259395501b5fbc647"), looks := true }, kinds := [], alts := [], laidByText := true, laidKinds := [.data, .data, .data, .data, .sentinel, .sentinel, .pinned], laidTests := true, laidLooks := .later }
def BuildSoundCardSaid : Prop := Claim7.holds Tryz.pinned (.plain (OpenSpec.ofChange buildSoundSpec)) buildSoundCard

/-- THE SECOND FORM's CARD OF 'quillworklaw15.BuildHost'. -/
def buildHostUptoCard : Claim7 := { stood := { row := buildHostUptoRow, standIns := [], harness := (true, "1fd83340d936cac109c867a686be41816475d16dbc62231259395501b5fbc647"), looks := true }, kinds := [], alts := [], laidByText := true, laidKinds := [.data, .data, .data, .data, .sentinel, .sentinel, .pinned], laidTests := true, laidLooks := .later }
def BuildHostUptoCardSaid : Prop := Claim7.holds Tryz.pinned (.plain (OpenSpec.upto buildHostSpec)) buildHostUptoCard

/-- THE SECOND FORM's CARD OF 'quillworklaw15.BuildNotes'. -/
def buildNotesUptoCard : Claim7 := { stood := { row := buildNotesUptoRow, standIns := [], harness := (true, "1fd83340d936cac109c867a686be41816475d16dbc62231259395501b5fbc647"), looks := true }, kinds := [], alts := [], laidByText := true, laidKinds := [.data, .data, .data, .data, .sentinel, .sentinel, .pinned], laidTests := true, laidLooks := .later }
def BuildNotesUptoCardSaid : Prop := Claim7.holds Tryz.pinned (.plain (OpenSpec.upto buildNotesSpec)) buildNotesUptoCard

/-- THE SECOND FORM's CARD OF 'quillworklaw16.PrintBack'. -/
def printBackUptoCard : Claim7 := { stood := { row := printBackUptoRow, standIns := [], harness := (true, "1fd83340d936cac109c867a686be41816475d16dbc62231259395501b5fbc647"), looks := true }, kinds := [], alts := [], laidByText := true, laidKinds := [.data, .data, .data, .data, .sentinel, .sentinel, .pinned], laidTests := true, laidLooks := .later }
def PrintBackUptoCardSaid : Prop := Claim7.holds Tryz.pinned (.plain (OpenSpec.upto printBackSpec)) printBackUptoCard

/-- THE SECOND FORM's CARD OF 'quillworklaw16.PrintBuilt'. -/
def printBuiltUptoCard : Claim7 := { stood := { row := printBuiltUptoRow, standIns := [], harness := (true, "1fd83340d936cac109c867a686be41816475d16dbc62231259395501b5fbc647"), looks := true }, kinds := [], alts := [], laidByText := true, laidKinds := [.data, .data, .data, .data, .sentinel, .sentinel, .pinned], laidTests := true, laidLooks := .later }
def PrintBuiltUptoCardSaid : Prop := Claim7.holds Tryz.pinned (.plain (OpenSpec.upto printBuiltSpec)) printBuiltUptoCard

/-- THE SECOND FORM's CARD OF 'quillworklaw16.PrintBeside'. -/
def printBesideUptoCard : Claim7 := { stood := { row := printBesideUptoRow, standIns := [], harness := (true, "1fd83340d936cac109c867a686be41816475d16dbc62231259395501b5fbc647"), looks := true }, kinds := [], alts := [], laidByText := true, laidKinds := [.data, .data, .data, .data, .sentinel, .sentinel, .pinned], laidTests := true, laidLooks := .later }
def PrintBesideUptoCardSaid : Prop := Claim7.holds Tryz.pinned (.plain (OpenSpec.upto printBesideSpec)) printBesideUptoCard

/-- THE SECOND FORM's CARD OF 'quillworklaw15.BuildSound'. -/
def buildSoundUptoCard : Claim7 := { stood := { row := buildSoundUptoRow, standIns := [], harness := (true, "1fd83340d936cac109c867a686be41816475d16dbc62231259395501b5fbc647"), looks := true }, kinds := [], alts := [], laidByText := true, laidKinds := [.data, .data, .data, .data, .sentinel, .sentinel, .pinned], laidTests := true, laidLooks := .later }
def BuildSoundUptoCardSaid : Prop := Claim7.holds Tryz.pinned (.plain (OpenSpec.upto buildSoundSpec)) buildSoundUptoCard
end Rows
end Go.Proofs.YtalaajbajgdglaaGreatDoor
