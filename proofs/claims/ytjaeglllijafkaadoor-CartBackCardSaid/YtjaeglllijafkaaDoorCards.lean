/-
  DERIVED. GIVEN WITH THE SEED: THE CARDS: each row of YtjaeglllijafkaaDoorRows.lean that lists a variable, with what it lists TIED to the program's text (the seventh form; the later family's looks); each row that meets fmt, with fmt's text TOLD by the authors' own Lean function (tested against real Go, not proved from fmt's source: count such statements apart). THE CARD IS WHAT COUNTS. Prove the row's statement (the work); the ties are given (YtjaeglllijafkaaDoorTie.lean); close each card by the builder's one call (the guide's Derived/Test/ToyasCard.lean, 'card_holds'). Laid BY PROGRAM, IN A SANDBOX (cutbox-door.mjs). By AI agents, Wed Nov 11 2026. No macro, syntax, notation, axiom, sorry.
-/
import Derived.Test.YtjaeglllijafkaaDoorRows
import GoSem.ClaimSeven
namespace Go.Proofs.YtjaeglllijafkaaDoor
namespace Rows

/-- THE TIED CARD OF 'lanthornlaw03.CartLooks'. -/
def cartLooksCard : Claim7 := { stood := { row := cartLooksRow, standIns := [], harness := (true, "9f116263646443d1ea9f662601c331abab30535b06aeb96c081ba552f0902b11"), looks := false }, kinds := [], alts := [], laidByText := true, laidKinds := [.data, .pinned], laidTests := true, laidLooks := .later }
def CartLooksCardSaid : Prop := Claim7.holds Tryd.pinned (.plain (OpenSpec.ofChange cartLooksSpec)) cartLooksCard

/-- THE TIED CARD OF 'lanthornlaw03.CartReads'. -/
def cartReadsCard : Claim7 := { stood := { row := cartReadsRow, standIns := [], harness := (true, "9f116263646443d1ea9f662601c331abab30535b06aeb96c081ba552f0902b11"), looks := false }, kinds := [], alts := [], laidByText := true, laidKinds := [.data, .pinned], laidTests := true, laidLooks := .later }
def CartReadsCardSaid : Prop := Claim7.holds Tryd.pinned (.plain (OpenSpec.ofChange cartReadsSpec)) cartReadsCard

/-- THE TIED CARD OF 'lanthornlaw03.CartBack'. -/
def cartBackCard : Claim7 := { stood := { row := cartBackRow, standIns := [], harness := (true, "9f116263646443d1ea9f662601c331abab30535b06aeb96c081ba552f0902b11"), looks := false }, kinds := [], alts := [], laidByText := true, laidKinds := [.data, .pinned], laidTests := true, laidLooks := .later }
def CartBackCardSaid : Prop := Claim7.holds Tryd.pinned (.plain (OpenSpec.ofChange cartBackSpec)) cartBackCard

/-- THE TIED CARD OF 'lanthornlaw03.CartSound'. -/
def cartSoundCard : Claim7 := { stood := { row := cartSoundRow, standIns := [], harness := (true, "9f116263646443d1ea9f662601c331abab30535b06aeb96c081ba552f0902b11"), looks := false }, kinds := [], alts := [], laidByText := true, laidKinds := [.data, .pinned], laidTests := true, laidLooks := .later }
def CartSoundCardSaid : Prop := Claim7.holds Tryd.pinned (.plain (OpenSpec.ofChange cartSoundSpec)) cartSoundCard

/-- THE SECOND FORM's CARD OF 'lanthornlaw03.CartLooks'. -/
def cartLooksUptoCard : Claim7 := { stood := { row := cartLooksUptoRow, standIns := [], harness := (true, "9f116263646443d1ea9f662601c331abab30535b06aeb96c081ba552f0902b11"), looks := false }, kinds := [], alts := [], laidByText := true, laidKinds := [.data, .pinned], laidTests := true, laidLooks := .later }
def CartLooksUptoCardSaid : Prop := Claim7.holds Tryd.pinned (.plain (OpenSpec.upto cartLooksSpec)) cartLooksUptoCard

/-- THE SECOND FORM's CARD OF 'lanthornlaw03.CartReads'. -/
def cartReadsUptoCard : Claim7 := { stood := { row := cartReadsUptoRow, standIns := [], harness := (true, "9f116263646443d1ea9f662601c331abab30535b06aeb96c081ba552f0902b11"), looks := false }, kinds := [], alts := [], laidByText := true, laidKinds := [.data, .pinned], laidTests := true, laidLooks := .later }
def CartReadsUptoCardSaid : Prop := Claim7.holds Tryd.pinned (.plain (OpenSpec.upto cartReadsSpec)) cartReadsUptoCard

/-- THE SECOND FORM's CARD OF 'lanthornlaw03.CartBack'. -/
def cartBackUptoCard : Claim7 := { stood := { row := cartBackUptoRow, standIns := [], harness := (true, "9f116263646443d1ea9f662601c331abab30535b06aeb96c081ba552f0902b11"), looks := false }, kinds := [], alts := [], laidByText := true, laidKinds := [.data, .pinned], laidTests := true, laidLooks := .later }
def CartBackUptoCardSaid : Prop := Claim7.holds Tryd.pinned (.plain (OpenSpec.upto cartBackSpec)) cartBackUptoCard

/-- THE SECOND FORM's CARD OF 'lanthornlaw03.CartSound'. -/
def cartSoundUptoCard : Claim7 := { stood := { row := cartSoundUptoRow, standIns := [], harness := (true, "9f116263646443d1ea9f662601c331abab30535b06aeb96c081ba552f0902b11"), looks := false }, kinds := [], alts := [], laidByText := true, laidKinds := [.data, .pinned], laidTests := true, laidLooks := .later }
def CartSoundUptoCardSaid : Prop := Claim7.holds Tryd.pinned (.plain (OpenSpec.upto cartSoundSpec)) cartSoundUptoCard
end Rows
end Go.Proofs.YtjaeglllijafkaaDoor
