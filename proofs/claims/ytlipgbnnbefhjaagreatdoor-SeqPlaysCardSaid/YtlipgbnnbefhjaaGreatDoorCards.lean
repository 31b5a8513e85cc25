/-
  DERIVED. GIVEN WITH THE SEED: THE CARDS: each row of YtlipgbnnbefhjaaGreatDoorRows.lean that lists a variable, with what it lists TIED to the program's text (the seventh form; the later family's looks); each row that meets fmt, with fmt's text TOLD by the authors' own Lean function (tested against real Go, not proved from fmt's source: count such statements apart). THE CARD IS WHAT COUNTS. Prove the row's statement (the work); the ties are given (YtlipgbnnbefhjaaGreatDoorTie.lean); close each card by the builder's one call (the guide's Derived/Test/ToyasCard.lean, 'card_holds'). Laid BY PROGRAM, IN A SANDBOX (cutbox-door.mjs). By AI agents, Wed Nov 11 2026. No macro, syntax, notation, axiom, sorry.
-/
import Derived.Test.YtlipgbnnbefhjaaGreatDoorRows
import GoSem.ClaimSeven
namespace Go.Proofs.YtlipgbnnbefhjaaGreatDoor
namespace Rows

/-- THE TIED CARD OF 'tabularlaw09.SeqTurns'. -/
def seqTurnsCard : Claim7 := { stood := { row := seqTurnsRow, standIns := [], harness := (true, "50f971bb6ea7ed6d8d846fe2c11b498c3316f2d174e6ad9286c50405bfd719ff"), looks := false }, kinds := [], alts := [], laidByText := true, laidKinds := [.data], laidTests := true, laidLooks := .later }
def SeqTurnsCardSaid : Prop := Claim7.holds Tryz.pinned (.plain (OpenSpec.ofChange seqTurnsSpec)) seqTurnsCard

/-- THE TIED CARD OF 'tabularlaw09.SeqPlays'. -/
def seqPlaysCard : Claim7 := { stood := { row := seqPlaysRow, standIns := [], harness := (true, "50f971bb6ea7ed6d8d846fe2c11b498c3316f2d174e6ad9286c50405bfd719ff"), looks := false }, kinds := [], alts := [], laidByText := true, laidKinds := [.data], laidTests := true, laidLooks := .later }
def SeqPlaysCardSaid : Prop := Claim7.holds Tryz.pinned (.plain (OpenSpec.ofChange seqPlaysSpec)) seqPlaysCard

/-- THE TIED CARD OF 'tabularlaw09.SeqBack'. -/
def seqBackCard : Claim7 := { stood := { row := seqBackRow, standIns := [], harness := (true, "50f971bb6ea7ed6d8d846fe2c11b498c3316f2d174e6ad9286c50405bfd719ff"), looks := false }, kinds := [], alts := [], laidByText := true, laidKinds := [.data], laidTests := true, laidLooks := .later }
def SeqBackCardSaid : Prop := Claim7.holds Tryz.pinned (.plain (OpenSpec.ofChange seqBackSpec)) seqBackCard

/-- THE SECOND FORM's CARD OF 'tabularlaw09.SeqTurns'. -/
def seqTurnsUptoCard : Claim7 := { stood := { row := seqTurnsUptoRow, standIns := [], harness := (true, "50f971bb6ea7ed6d8d846fe2c11b498c3316f2d174e6ad9286c50405bfd719ff"), looks := false }, kinds := [], alts := [], laidByText := true, laidKinds := [.data], laidTests := true, laidLooks := .later }
def SeqTurnsUptoCardSaid : Prop := Claim7.holds Tryz.pinned (.plain (OpenSpec.upto seqTurnsSpec)) seqTurnsUptoCard

/-- THE SECOND FORM's CARD OF 'tabularlaw09.SeqPlays'. -/
def seqPlaysUptoCard : Claim7 := { stood := { row := seqPlaysUptoRow, standIns := [], harness := (true, "50f971bb6ea7ed6d8d846fe2c11b498c3316f2d174e6ad9286c50405bfd719ff"), looks := false }, kinds := [], alts := [], laidByText := true, laidKinds := [.data], laidTests := true, laidLooks := .later }
def SeqPlaysUptoCardSaid : Prop := Claim7.holds Tryz.pinned (.plain (OpenSpec.upto seqPlaysSpec)) seqPlaysUptoCard

/-- THE SECOND FORM's CARD OF 'tabularlaw09.SeqBack'. -/
def seqBackUptoCard : Claim7 := { stood := { row := seqBackUptoRow, standIns := [], harness := (true, "50f971bb6ea7ed6d8d846fe2c11b498c3316f2d174e6ad9286c50405bfd719ff"), looks := false }, kinds := [], alts := [], laidByText := true, laidKinds := [.data], laidTests := true, laidLooks := .later }
def SeqBackUptoCardSaid : Prop := Claim7.holds Tryz.pinned (.plain (OpenSpec.upto seqBackSpec)) seqBackUptoCard
end Rows
end Go.Proofs.YtlipgbnnbefhjaaGreatDoor
