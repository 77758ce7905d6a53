/-
  DERIVED. GIVEN WITH THE SEED: THE CARDS: each row of YtpeieilbjadcfaaGreatDoorRows.lean that lists a variable, with what it lists TIED to the program's text (the seventh form; the later family's looks); each row that meets fmt, with fmt's text TOLD by the authors' own Lean function (tested against real Go, not proved from fmt's source: count such statements apart). THE CARD IS WHAT COUNTS. Prove the row's statement (the work); the ties are given (YtpeieilbjadcfaaGreatDoorTie.lean); close each card by the builder's one call (the guide's Derived/Test/ToyasCard.lean, 'card_holds'). Laid BY PROGRAM, IN A SANDBOX (cutbox-door.mjs). By AI agents, Wed Nov 11 2026. No macro, syntax, notation, axiom, sorry.
-/
import Derived.Test.YtpeieilbjadcfaaGreatDoorRows
import GoSem.ClaimSeven
namespace Go.Proofs.YtpeieilbjadcfaaGreatDoor
namespace Rows

/-- THE TIED CARD OF 'lanthornlaw06.CodesBytes'. -/
def codesBytesCard : Claim7 := { stood := { row := codesBytesRow, standIns := [], harness := (true, "78ee86e89544e2d5e1e2fb318bb9861c5f676b53226a90465fa634ed7c23074e"), looks := true }, kinds := [], alts := [], laidByText := true, laidKinds := [.data, .data, .data, .data, .sentinel, .sentinel, .pinned], laidTests := true, laidLooks := .later }
def CodesBytesCardSaid : Prop := Claim7.holds Tryz.pinned (.plain (OpenSpec.ofChange codesBytesSpec)) codesBytesCard

/-- THE TIED CARD OF 'lanthornlaw06.CodesForth'. -/
def codesForthCard : Claim7 := { stood := { row := codesForthRow, standIns := [], harness := (true, "78ee86e89544e2d5e1e2fb318bb9861c5f676b53226a90465fa634ed7c23074e"), looks := true }, kinds := [], alts := [], laidByText := true, laidKinds := [.data, .data, .data, .data, .sentinel, .sentinel, .pinned], laidTests := true, laidLooks := .later }
def CodesForthCardSaid : Prop := Claim7.holds Tryz.pinned (.plain (OpenSpec.ofChange codesForthSpec)) codesForthCard

/-- THE TIED CARD OF 'lanthornlaw06.CodesBack'. -/
def codesBackCard : Claim7 := { stood := { row := codesBackRow, standIns := [], harness := (true, "78ee86e89544e2d5e1e2fb318bb9861c5f676b53226a90465fa634ed7c23074e"), looks := true }, kinds := [], alts := [], laidByText := true, laidKinds := [.data, .data, .data, .data, .sentinel, .sentinel, .pinned], laidTests := true, laidLooks := .later }
def CodesBackCardSaid : Prop := Claim7.holds Tryz.pinned (.plain (OpenSpec.ofChange codesBackSpec)) codesBackCard

/-- THE SECOND FORM's CARD OF 'lanthornlaw06.CodesBytes'. -/
def codesBytesUptoCard : Claim7 := { stood := { row := codesBytesUptoRow, standIns := [], harness := (true, "78ee86e89544e2d5e1e2fb318bb9861c5f676b53226a90465fa634ed7c23074e"), looks := true }, kinds := [], alts := [], laidByText := true, laidKinds := [.data, .data, .data, .data, .sentinel, .sentinel, .pinned], laidTests := true, laidLooks := .later }
def CodesBytesUptoCardSaid : Prop := Claim7.holds Tryz.pinned (.plain (OpenSpec.upto codesBytesSpec)) codesBytesUptoCard

/-- THE SECOND FORM's CARD OF 'lanthornlaw06.CodesForth'. -/
def codesForthUptoCard : Claim7 := { stood := { row := codesForthUptoRow, standIns := [], harness := (true, "78ee86e89544e2d5e1e2fb318bb9861c5f676b53226a90465fa634ed7c23074e"), looks := true }, kinds := [], alts := [], laidByText := true, laidKinds := [.data, .data, .data, .data, .sentinel, .sentinel, .pinned], laidTests := true, laidLooks := .later }
def CodesForthUptoCardSaid : Prop := Claim7.holds Tryz.pinned (.plain (OpenSpec.upto codesForthSpec)) codesForthUptoCard

/-- THE SECOND FORM's CARD OF 'lanthornlaw06.CodesBack'. -/
def codesBackUptoCard : Claim7 := { stood := { row := codesBackUptoRow, standIns := [], harness := (true, "78ee86e89544e2d5e1e2fb318bb9861c5f676b53226a90465fa634ed7c23074e"), looks := true }, kinds := [], alts := [], laidByText := true, laidKinds := [.data, .data, .data, .data, .sentinel, .sentinel, .pinned], laidTests := true, laidLooks := .later }
def CodesBackUptoCardSaid : Prop := Claim7.holds Tryz.pinned (.plain (OpenSpec.upto codesBackSpec)) codesBackUptoCard
end Rows
end Go.Proofs.YtpeieilbjadcfaaGreatDoor
