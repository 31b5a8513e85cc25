/-
  DERIVED. GIVEN WITH THE SEED: THE CARDS: each row of YtamnhpijeiigcaaDoorRows.lean that lists a variable, with what it lists TIED to the program's text (the seventh form; the later family's looks); each row that meets fmt, with fmt's text TOLD by the authors' own Lean function (tested against real Go, not proved from fmt's source: count such statements apart). THE CARD IS WHAT COUNTS. Prove the row's statement (the work); the ties are given (YtamnhpijeiigcaaDoorTie.lean); close each card by the builder's one call (the guide's Derived/Test/ToyasCard.lean, 'card_holds'). Laid BY PROGRAM, IN A SANDBOX (cutbox-door.mjs). By AI agents, Wed Nov 11 2026. No macro, syntax, notation, axiom, sorry.
-/
import Derived.Test.YtamnhpijeiigcaaDoorRows
import GoSem.ClaimSeven
namespace Go.Proofs.YtamnhpijeiigcaaDoor
namespace Rows

/-- THE TIED CARD OF 'tabularlaw04.DiskFull'. -/
def diskFullCard : Claim7 := { stood := { row := diskFullRow, standIns := [], harness := (true, "1a51633f5c375d0ec04ae6a3ed52c0d5fd9be6bd79957c11335a1106d0b87cbe"), looks := false }, kinds := [], alts := [], laidByText := true, laidKinds := [.data], laidTests := true, laidLooks := .later }
def DiskFullCardSaid : Prop := Claim7.holds Tryd.pinned (.plain (OpenSpec.ofChange diskFullSpec)) diskFullCard

/-- THE TIED CARD OF 'tabularlaw04.DiskFails'. -/
def diskFailsCard : Claim7 := { stood := { row := diskFailsRow, standIns := [], harness := (true, "1a51633f5c375d0ec04ae6a3ed52c0d5fd9be6bd79957c11335a1106d0b87cbe"), looks := false }, kinds := [], alts := [], laidByText := true, laidKinds := [.data], laidTests := true, laidLooks := .later }
def DiskFailsCardSaid : Prop := Claim7.holds Tryd.pinned (.plain (OpenSpec.ofChange diskFailsSpec)) diskFailsCard

/-- THE TIED CARD OF 'tabularlaw04.DiskSpoilt'. -/
def diskSpoiltCard : Claim7 := { stood := { row := diskSpoiltRow, standIns := [], harness := (true, "1a51633f5c375d0ec04ae6a3ed52c0d5fd9be6bd79957c11335a1106d0b87cbe"), looks := false }, kinds := [], alts := [], laidByText := true, laidKinds := [.data], laidTests := true, laidLooks := .later }
def DiskSpoiltCardSaid : Prop := Claim7.holds Tryd.pinned (.plain (OpenSpec.ofChange diskSpoiltSpec)) diskSpoiltCard

/-- THE TIED CARD OF 'tabularlaw04.DiskPlays'. -/
def diskPlaysCard : Claim7 := { stood := { row := diskPlaysRow, standIns := [], harness := (true, "1a51633f5c375d0ec04ae6a3ed52c0d5fd9be6bd79957c11335a1106d0b87cbe"), looks := false }, kinds := [], alts := [], laidByText := true, laidKinds := [.data], laidTests := true, laidLooks := .later }
def DiskPlaysCardSaid : Prop := Claim7.holds Tryd.pinned (.plain (OpenSpec.ofChange diskPlaysSpec)) diskPlaysCard

/-- THE TIED CARD OF 'tabularlaw04.DiskBack'. -/
def diskBackCard : Claim7 := { stood := { row := diskBackRow, standIns := [], harness := (true, "1a51633f5c375d0ec04ae6a3ed52c0d5fd9be6bd79957c11335a1106d0b87cbe"), looks := false }, kinds := [], alts := [], laidByText := true, laidKinds := [.data], laidTests := true, laidLooks := .later }
def DiskBackCardSaid : Prop := Claim7.holds Tryd.pinned (.plain (OpenSpec.ofChange diskBackSpec)) diskBackCard

/-- THE TIED CARD OF 'tabularlaw04.DiskOpens'. -/
def diskOpensCard : Claim7 := { stood := { row := diskOpensRow, standIns := [], harness := (true, "1a51633f5c375d0ec04ae6a3ed52c0d5fd9be6bd79957c11335a1106d0b87cbe"), looks := false }, kinds := [], alts := [], laidByText := true, laidKinds := [.data], laidTests := true, laidLooks := .later }
def DiskOpensCardSaid : Prop := Claim7.holds Tryd.pinned (.plain (OpenSpec.ofChange diskOpensSpec)) diskOpensCard

/-- THE SECOND FORM's CARD OF 'tabularlaw04.DiskFull'. -/
def diskFullUptoCard : Claim7 := { stood := { row := diskFullUptoRow, standIns := [], harness := (true, "1a51633f5c375d0ec04ae6a3ed52c0d5fd9be6bd79957c11335a1106d0b87cbe"), looks := false }, kinds := [], alts := [], laidByText := true, laidKinds := [.data], laidTests := true, laidLooks := .later }
def DiskFullUptoCardSaid : Prop := Claim7.holds Tryd.pinned (.plain (OpenSpec.upto diskFullSpec)) diskFullUptoCard

/-- THE SECOND FORM's CARD OF 'tabularlaw04.DiskFails'. -/
def diskFailsUptoCard : Claim7 := { stood := { row := diskFailsUptoRow, standIns := [], harness := (true, "1a51633f5c375d0ec04ae6a3ed52c0d5fd9be6bd79957c11335a1106d0b87cbe"), looks := false }, kinds := [], alts := [], laidByText := true, laidKinds := [.data], laidTests := true, laidLooks := .later }
def DiskFailsUptoCardSaid : Prop := Claim7.holds Tryd.pinned (.plain (OpenSpec.upto diskFailsSpec)) diskFailsUptoCard

/-- THE SECOND FORM's CARD OF 'tabularlaw04.DiskSpoilt'. -/
def diskSpoiltUptoCard : Claim7 := { stood := { row := diskSpoiltUptoRow, standIns := [], harness := (true, "1a51633f5c375d0ec04ae6a3ed52c0d5fd9be6bd79957c11335a1106d0b87cbe"), looks := false }, kinds := [], alts := [], laidByText := true, laidKinds := [.data], laidTests := true, laidLooks := .later }
def DiskSpoiltUptoCardSaid : Prop := Claim7.holds Tryd.pinned (.plain (OpenSpec.upto diskSpoiltSpec)) diskSpoiltUptoCard

/-- THE SECOND FORM's CARD OF 'tabularlaw04.DiskPlays'. -/
def diskPlaysUptoCard : Claim7 := { stood := { row := diskPlaysUptoRow, standIns := [], harness := (true, "1a51633f5c375d0ec04ae6a3ed52c0d5fd9be6bd79957c11335a1106d0b87cbe"), looks := false }, kinds := [], alts := [], laidByText := true, laidKinds := [.data], laidTests := true, laidLooks := .later }
def DiskPlaysUptoCardSaid : Prop := Claim7.holds Tryd.pinned (.plain (OpenSpec.upto diskPlaysSpec)) diskPlaysUptoCard

/-- THE SECOND FORM's CARD OF 'tabularlaw04.DiskBack'. -/
def diskBackUptoCard : Claim7 := { stood := { row := diskBackUptoRow, standIns := [], harness := (true, "1a51633f5c375d0ec04ae6a3ed52c0d5fd9be6bd79957c11335a1106d0b87cbe"), looks := false }, kinds := [], alts := [], laidByText := true, laidKinds := [.data], laidTests := true, laidLooks := .later }
def DiskBackUptoCardSaid : Prop := Claim7.holds Tryd.pinned (.plain (OpenSpec.upto diskBackSpec)) diskBackUptoCard

/-- THE SECOND FORM's CARD OF 'tabularlaw04.DiskOpens'. -/
def diskOpensUptoCard : Claim7 := { stood := { row := diskOpensUptoRow, standIns := [], harness := (true, "1a51633f5c375d0ec04ae6a3ed52c0d5fd9be6bd79957c11335a1106d0b87cbe"), looks := false }, kinds := [], alts := [], laidByText := true, laidKinds := [.data], laidTests := true, laidLooks := .later }
def DiskOpensUptoCardSaid : Prop := Claim7.holds Tryd.pinned (.plain (OpenSpec.upto diskOpensSpec)) diskOpensUptoCard
end Rows
end Go.Proofs.YtamnhpijeiigcaaDoor
