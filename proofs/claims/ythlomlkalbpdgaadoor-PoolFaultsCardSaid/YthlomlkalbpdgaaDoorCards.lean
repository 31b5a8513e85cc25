/-
  DERIVED. GIVEN WITH THE SEED: THE CARDS: each row of YthlomlkalbpdgaaDoorRows.lean that lists a variable, with what it lists TIED to the program's text (the seventh form; the later family's looks); each row that meets fmt, with fmt's text TOLD by the authors' own Lean function (tested against real Go, not proved from fmt's source: count such statements apart). THE CARD IS WHAT COUNTS. Prove the row's statement (the work); the ties are given (YthlomlkalbpdgaaDoorTie.lean); close each card by the builder's one call (the guide's Derived/Test/ToyasCard.lean, 'card_holds'). Laid BY PROGRAM, IN A SANDBOX (cutbox-door.mjs). By AI agents, Wed Nov 11 2026. No macro, syntax, notation, axiom, sorry.
-/
import Derived.Test.YthlomlkalbpdgaaDoorRows
import GoSem.ClaimSeven
namespace Go.Proofs.YthlomlkalbpdgaaDoor
namespace Rows

/-- THE TIED CARD OF 'tabularlaw05.PoolFaults'. -/
def poolFaultsCard : Claim7 := { stood := { row := poolFaultsRow, standIns := [], harness := (true, "bd0666cfccd4d1f6fc63dad7765dd9735f646ea91f088f661f5b9f8472068d6d"), looks := false }, kinds := [], alts := [], laidByText := true, laidKinds := [.data], laidTests := true, laidLooks := .later }
def PoolFaultsCardSaid : Prop := Claim7.holds Tryd.pinned (.plain (OpenSpec.ofChange poolFaultsSpec)) poolFaultsCard

/-- THE TIED CARD OF 'tabularlaw05.PoolUndoes'. -/
def poolUndoesCard : Claim7 := { stood := { row := poolUndoesRow, standIns := [], harness := (true, "bd0666cfccd4d1f6fc63dad7765dd9735f646ea91f088f661f5b9f8472068d6d"), looks := false }, kinds := [], alts := [], laidByText := true, laidKinds := [.data], laidTests := true, laidLooks := .later }
def PoolUndoesCardSaid : Prop := Claim7.holds Tryd.pinned (.plain (OpenSpec.ofChange poolUndoesSpec)) poolUndoesCard

/-- THE SECOND FORM's CARD OF 'tabularlaw05.PoolFaults'. -/
def poolFaultsUptoCard : Claim7 := { stood := { row := poolFaultsUptoRow, standIns := [], harness := (true, "bd0666cfccd4d1f6fc63dad7765dd9735f646ea91f088f661f5b9f8472068d6d"), looks := false }, kinds := [], alts := [], laidByText := true, laidKinds := [.data], laidTests := true, laidLooks := .later }
def PoolFaultsUptoCardSaid : Prop := Claim7.holds Tryd.pinned (.plain (OpenSpec.upto poolFaultsSpec)) poolFaultsUptoCard

/-- THE SECOND FORM's CARD OF 'tabularlaw05.PoolUndoes'. -/
def poolUndoesUptoCard : Claim7 := { stood := { row := poolUndoesUptoRow, standIns := [], harness := (true, "bd0666cfccd4d1f6fc63dad7765dd9735f646ea91f088f661f5b9f8472068d6d"), looks := false }, kinds := [], alts := [], laidByText := true, laidKinds := [.data], laidTests := true, laidLooks := .later }
def PoolUndoesUptoCardSaid : Prop := Claim7.holds Tryd.pinned (.plain (OpenSpec.upto poolUndoesSpec)) poolUndoesUptoCard
end Rows
end Go.Proofs.YthlomlkalbpdgaaDoor
