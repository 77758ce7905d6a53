/-
  DERIVED. GIVEN WITH THE SEED: THE CARDS: each row of YteabjninmaceaaaGreatDoorRows.lean that lists a variable, with what it lists TIED to the program's text (the seventh form; the later family's looks); each row that meets fmt, with fmt's text TOLD by the authors' own Lean function (tested against real Go, not proved from fmt's source: count such statements apart). THE CARD IS WHAT COUNTS. Prove the row's statement (the work); the ties are given (YteabjninmaceaaaGreatDoorTie.lean); close each card by the builder's one call (the guide's Derived/Test/ToyasCard.lean, 'card_holds'). Laid BY PROGRAM, IN A SANDBOX (cutbox-door.mjs). By AI agents, Wed Nov 11 2026. No macro, syntax, notation, axiom, sorry.
-/
import Derived.Test.YteabjninmaceaaaGreatDoorRows
import GoSem.ClaimSeven
namespace Go.Proofs.YteabjninmaceaaaGreatDoor
namespace Rows

/-- THE TIED CARD OF 'lanthornlaw10.NotesWritten'. -/
def notesWrittenCard : Claim7 := { stood := { row := notesWrittenRow, standIns := [], harness := (true, "45a5ddaec67f9f1a73c7be55c5cd9ab103ca3dee71148266a61be3d9b23eb872"), looks := true }, kinds := [], alts := [], laidByText := true, laidKinds := [.data, .data, .data, .data, .sentinel, .sentinel, .pinned, .pinned], laidTests := true, laidLooks := .later }
def NotesWrittenCardSaid : Prop := Claim7.holds Tryz.pinned (.plain (OpenSpec.ofChange notesWrittenSpec)) notesWrittenCard

/-- THE TIED CARD OF 'lanthornlaw10.NotesSound'. -/
def notesSoundCard : Claim7 := { stood := { row := notesSoundRow, standIns := [], harness := (true, "45a5ddaec67f9f1a73c7be55c5cd9ab103ca3dee71148266a61be3d9b23eb872"), looks := true }, kinds := [], alts := [], laidByText := true, laidKinds := [.data, .data, .data, .data, .sentinel, .sentinel, .pinned, .pinned], laidTests := true, laidLooks := .later }
def NotesSoundCardSaid : Prop := Claim7.holds Tryz.pinned (.plain (OpenSpec.ofChange notesSoundSpec)) notesSoundCard

/-- THE SECOND FORM's CARD OF 'lanthornlaw10.NotesWritten'. -/
def notesWrittenUptoCard : Claim7 := { stood := { row := notesWrittenUptoRow, standIns := [], harness := (true, "45a5ddaec67f9f1a73c7be55c5cd9ab103ca3dee71148266a61be3d9b23eb872"), looks := true }, kinds := [], alts := [], laidByText := true, laidKinds := [.data, .data, .data, .data, .sentinel, .sentinel, .pinned, .pinned], laidTests := true, laidLooks := .later }
def NotesWrittenUptoCardSaid : Prop := Claim7.holds Tryz.pinned (.plain (OpenSpec.upto notesWrittenSpec)) notesWrittenUptoCard

/-- THE SECOND FORM's CARD OF 'lanthornlaw10.NotesSound'. -/
def notesSoundUptoCard : Claim7 := { stood := { row := notesSoundUptoRow, standIns := [], harness := (true, "45a5ddaec67f9f1a73c7be55c5cd9ab103ca3dee71148266a61be3d9b23eb872"), looks := true }, kinds := [], alts := [], laidByText := true, laidKinds := [.data, .data, .data, .data, .sentinel, .sentinel, .pinned, .pinned], laidTests := true, laidLooks := .later }
def NotesSoundUptoCardSaid : Prop := Claim7.holds Tryz.pinned (.plain (OpenSpec.upto notesSoundSpec)) notesSoundUptoCard
end Rows
end Go.Proofs.YteabjninmaceaaaGreatDoor
