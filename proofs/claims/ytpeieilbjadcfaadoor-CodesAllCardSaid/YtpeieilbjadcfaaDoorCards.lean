/-
  DERIVED. GIVEN WITH THE SEED: THE CARDS: each row of YtpeieilbjadcfaaDoorRows.lean that lists a variable, with what it lists TIED to the program's text (the seventh form; the later family's looks); each row that meets fmt, with fmt's text TOLD by the authors' own Lean function (tested against real Go, not proved from fmt's source: count such statements apart). THE CARD IS WHAT COUNTS. Prove the row's statement (the work); the ties are given (YtpeieilbjadcfaaDoorTie.lean); close each card by the builder's one call (the guide's Derived/Test/ToyasCard.lean, 'card_holds'). Laid BY PROGRAM, IN A SANDBOX (cutbox-door.mjs). By AI agents, Wed Nov 11 2026. No macro, syntax, notation, axiom, sorry.
-/
import Derived.Test.YtpeieilbjadcfaaDoorRows
import GoSem.ClaimSeven
namespace Go.Proofs.YtpeieilbjadcfaaDoor
namespace Rows

/-- THE TIED CARD OF 'lanthornlaw06.CodesTexts'. -/
def codesTextsCard : Claim7 := { stood := { row := codesTextsRow, standIns := [], harness := (true, "ce2f1f59940c853a5a3bc0b9cfe0a2c46f37906f54fdb545cd75a121c7cbbddc"), looks := false }, kinds := [], alts := [], laidByText := true, laidKinds := [.data, .data, .data, .data, .pinned], laidTests := true, laidLooks := .later }
def CodesTextsCardSaid : Prop := Claim7.holds Tryd.pinned (.plain (OpenSpec.ofChange codesTextsSpec)) codesTextsCard

/-- THE TIED CARD OF 'lanthornlaw06.CodesOf'. -/
def codesOfCard : Claim7 := { stood := { row := codesOfRow, standIns := [], harness := (true, "ce2f1f59940c853a5a3bc0b9cfe0a2c46f37906f54fdb545cd75a121c7cbbddc"), looks := false }, kinds := [], alts := [], laidByText := true, laidKinds := [.data, .data, .data, .data, .pinned], laidTests := true, laidLooks := .later }
def CodesOfCardSaid : Prop := Claim7.holds Tryd.pinned (.plain (OpenSpec.ofChange codesOfSpec)) codesOfCard

/-- THE TIED CARD OF 'lanthornlaw06.CodesUnlike'. -/
def codesUnlikeCard : Claim7 := { stood := { row := codesUnlikeRow, standIns := [], harness := (true, "ce2f1f59940c853a5a3bc0b9cfe0a2c46f37906f54fdb545cd75a121c7cbbddc"), looks := false }, kinds := [], alts := [], laidByText := true, laidKinds := [.data, .data, .data, .data, .pinned], laidTests := true, laidLooks := .later }
def CodesUnlikeCardSaid : Prop := Claim7.holds Tryd.pinned (.plain (OpenSpec.ofChange codesUnlikeSpec)) codesUnlikeCard

/-- THE TIED CARD OF 'lanthornlaw06.CodesAll'. -/
def codesAllCard : Claim7 := { stood := { row := codesAllRow, standIns := [], harness := (true, "ce2f1f59940c853a5a3bc0b9cfe0a2c46f37906f54fdb545cd75a121c7cbbddc"), looks := false }, kinds := [], alts := [], laidByText := true, laidKinds := [.data, .data, .data, .data, .pinned], laidTests := true, laidLooks := .later }
def CodesAllCardSaid : Prop := Claim7.holds Tryd.pinned (.plain (OpenSpec.ofChange codesAllSpec)) codesAllCard

/-- THE SECOND FORM's CARD OF 'lanthornlaw06.CodesTexts'. -/
def codesTextsUptoCard : Claim7 := { stood := { row := codesTextsUptoRow, standIns := [], harness := (true, "ce2f1f59940c853a5a3bc0b9cfe0a2c46f37906f54fdb545cd75a121c7cbbddc"), looks := false }, kinds := [], alts := [], laidByText := true, laidKinds := [.data, .data, .data, .data, .pinned], laidTests := true, laidLooks := .later }
def CodesTextsUptoCardSaid : Prop := Claim7.holds Tryd.pinned (.plain (OpenSpec.upto codesTextsSpec)) codesTextsUptoCard

/-- THE SECOND FORM's CARD OF 'lanthornlaw06.CodesOf'. -/
def codesOfUptoCard : Claim7 := { stood := { row := codesOfUptoRow, standIns := [], harness := (true, "ce2f1f59940c853a5a3bc0b9cfe0a2c46f37906f54fdb545cd75a121c7cbbddc"), looks := false }, kinds := [], alts := [], laidByText := true, laidKinds := [.data, .data, .data, .data, .pinned], laidTests := true, laidLooks := .later }
def CodesOfUptoCardSaid : Prop := Claim7.holds Tryd.pinned (.plain (OpenSpec.upto codesOfSpec)) codesOfUptoCard

/-- THE SECOND FORM's CARD OF 'lanthornlaw06.CodesUnlike'. -/
def codesUnlikeUptoCard : Claim7 := { stood := { row := codesUnlikeUptoRow, standIns := [], harness := (true, "ce2f1f59940c853a5a3bc0b9cfe0a2c46f37906f54fdb545cd75a121c7cbbddc"), looks := false }, kinds := [], alts := [], laidByText := true, laidKinds := [.data, .data, .data, .data, .pinned], laidTests := true, laidLooks := .later }
def CodesUnlikeUptoCardSaid : Prop := Claim7.holds Tryd.pinned (.plain (OpenSpec.upto codesUnlikeSpec)) codesUnlikeUptoCard

/-- THE SECOND FORM's CARD OF 'lanthornlaw06.CodesAll'. -/
def codesAllUptoCard : Claim7 := { stood := { row := codesAllUptoRow, standIns := [], harness := (true, "ce2f1f59940c853a5a3bc0b9cfe0a2c46f37906f54fdb545cd75a121c7cbbddc"), looks := false }, kinds := [], alts := [], laidByText := true, laidKinds := [.data, .data, .data, .data, .pinned], laidTests := true, laidLooks := .later }
def CodesAllUptoCardSaid : Prop := Claim7.holds Tryd.pinned (.plain (OpenSpec.upto codesAllSpec)) codesAllUptoCard
end Rows
end Go.Proofs.YtpeieilbjadcfaaDoor
