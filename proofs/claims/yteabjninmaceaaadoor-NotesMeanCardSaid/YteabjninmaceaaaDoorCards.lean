/-
  DERIVED. GIVEN WITH THE SEED: THE CARDS: each row of YteabjninmaceaaaDoorRows.lean that lists a variable, with what it lists TIED to the program's text (the seventh form; the later family's looks); each row that meets fmt, with fmt's text TOLD by the authors' own Lean function (tested against real Go, not proved from fmt's source: count such statements apart). THE CARD IS WHAT COUNTS. Prove the row's statement (the work); the ties are given (YteabjninmaceaaaDoorTie.lean); close each card by the builder's one call (the guide's Derived/Test/ToyasCard.lean, 'card_holds'). Laid BY PROGRAM, IN A SANDBOX (cutbox-door.mjs). By AI agents, Wed Nov 11 2026. No macro, syntax, notation, axiom, sorry.
-/
import Derived.Test.YteabjninmaceaaaDoorRows
import GoSem.ClaimSeven
namespace Go.Proofs.YteabjninmaceaaaDoor
namespace Rows

/-- THE TIED CARD OF 'lanthornlaw10.NotesAll'. -/
def notesAllCard : Claim7 := { stood := { row := notesAllRow, standIns := [], harness := (true, "79ee6c9888c2c8008bfd3ad439928094222f61f95698047747b253ab99e8bbf5"), looks := true }, kinds := [], alts := [], laidByText := true, laidKinds := [.data, .data, .data, .data, .sentinel, .sentinel, .pinned], laidTests := true, laidLooks := .later }
def NotesAllCardSaid : Prop := Claim7.holds Tryd.pinned (.plain (OpenSpec.ofChange notesAllSpec)) notesAllCard

/-- THE TIED CARD OF 'lanthornlaw10.NotesMean'. -/
def notesMeanCard : Claim7 := { stood := { row := notesMeanRow, standIns := [], harness := (true, "79ee6c9888c2c8008bfd3ad439928094222f61f95698047747b253ab99e8bbf5"), looks := true }, kinds := [], alts := [], laidByText := true, laidKinds := [.data, .data, .data, .data, .sentinel, .sentinel, .pinned], laidTests := true, laidLooks := .later }
def NotesMeanCardSaid : Prop := Claim7.holds Tryd.pinned (.plain (OpenSpec.ofChange notesMeanSpec)) notesMeanCard

/-- THE SECOND FORM's CARD OF 'lanthornlaw10.NotesAll'. -/
def notesAllUptoCard : Claim7 := { stood := { row := notesAllUptoRow, standIns := [], harness := (true, "79ee6c9888c2c8008bfd3ad439928094222f61f95698047747b253ab99e8bbf5"), looks := true }, kinds := [], alts := [], laidByText := true, laidKinds := [.data, .data, .data, .data, .sentinel, .sentinel, .pinned], laidTests := true, laidLooks := .later }
def NotesAllUptoCardSaid : Prop := Claim7.holds Tryd.pinned (.plain (OpenSpec.upto notesAllSpec)) notesAllUptoCard

/-- THE SECOND FORM's CARD OF 'lanthornlaw10.NotesMean'. -/
def notesMeanUptoCard : Claim7 := { stood := { row := notesMeanUptoRow, standIns := [], harness := (true, "79ee6c9888c2c8008bfd3ad439928094222f61f95698047747b253ab99e8bbf5"), looks := true }, kinds := [], alts := [], laidByText := true, laidKinds := [.data, .data, .data, .data, .sentinel, .sentinel, .pinned], laidTests := true, laidLooks := .later }
def NotesMeanUptoCardSaid : Prop := Claim7.holds Tryd.pinned (.plain (OpenSpec.upto notesMeanSpec)) notesMeanUptoCard
end Rows
end Go.Proofs.YteabjninmaceaaaDoor
