/-
  DERIVED. GIVEN WITH THE SEED: THE CARDS: each row of YtjfkdfffolkblaaGreatDoorRows.lean that lists a variable, with what it lists TIED to the program's text (the seventh form; the later family's looks); each row that meets fmt, with fmt's text TOLD by the authors' own Lean function (tested against real Go, not proved from fmt's source: count such statements apart). THE CARD IS WHAT COUNTS. Prove the row's statement (the work); the ties are given (YtjfkdfffolkblaaGreatDoorTie.lean); close each card by the builder's one call (the guide's Derived/Test/ToyasCard.lean, 'card_holds'). Laid BY PROGRAM, IN A SANDBOX (cutbox-door.mjs). By AI agents, Wed Nov 11 2026. No macro, syntax, notation, axiom, sorry.
-/
import Derived.Test.YtjfkdfffolkblaaGreatDoorRows
import GoSem.ClaimSeven
namespace Go.Proofs.YtjfkdfffolkblaaGreatDoor
namespace Rows

/-- THE TIED CARD OF 'tabularlaw07.HeapGives'. -/
def heapGivesCard : Claim7 := { stood := { row := heapGivesRow, standIns := [], harness := (true, "92da396e3b74da7a37f8d3eb178ef87357547cdcc7dac1a4d2a05753f19894c3"), looks := false }, kinds := [], alts := [], laidByText := true, laidKinds := [.data], laidTests := true, laidLooks := .later }
def HeapGivesCardSaid : Prop := Claim7.holds Tryz.pinned (.plain (OpenSpec.ofChange heapGivesSpec)) heapGivesCard

/-- THE TIED CARD OF 'tabularlaw07.HeapFull'. -/
def heapFullCard : Claim7 := { stood := { row := heapFullRow, standIns := [], harness := (true, "92da396e3b74da7a37f8d3eb178ef87357547cdcc7dac1a4d2a05753f19894c3"), looks := false }, kinds := [], alts := [], laidByText := true, laidKinds := [.data], laidTests := true, laidLooks := .later }
def HeapFullCardSaid : Prop := Claim7.holds Tryz.pinned (.plain (OpenSpec.ofChange heapFullSpec)) heapFullCard

/-- THE TIED CARD OF 'tabularlaw07.HeapBack'. -/
def heapBackCard : Claim7 := { stood := { row := heapBackRow, standIns := [], harness := (true, "92da396e3b74da7a37f8d3eb178ef87357547cdcc7dac1a4d2a05753f19894c3"), looks := false }, kinds := [], alts := [], laidByText := true, laidKinds := [.data], laidTests := true, laidLooks := .later }
def HeapBackCardSaid : Prop := Claim7.holds Tryz.pinned (.plain (OpenSpec.ofChange heapBackSpec)) heapBackCard

/-- THE TIED CARD OF 'tabularlaw08.TreePlays'. -/
def treePlaysCard : Claim7 := { stood := { row := treePlaysRow, standIns := [], harness := (true, "92da396e3b74da7a37f8d3eb178ef87357547cdcc7dac1a4d2a05753f19894c3"), looks := false }, kinds := [], alts := [], laidByText := true, laidKinds := [.data], laidTests := true, laidLooks := .later }
def TreePlaysCardSaid : Prop := Claim7.holds Tryz.pinned (.plain (OpenSpec.ofChange treePlaysSpec)) treePlaysCard

/-- THE TIED CARD OF 'tabularlaw08.TreeBack'. -/
def treeBackCard : Claim7 := { stood := { row := treeBackRow, standIns := [], harness := (true, "92da396e3b74da7a37f8d3eb178ef87357547cdcc7dac1a4d2a05753f19894c3"), looks := false }, kinds := [], alts := [], laidByText := true, laidKinds := [.data], laidTests := true, laidLooks := .later }
def TreeBackCardSaid : Prop := Claim7.holds Tryz.pinned (.plain (OpenSpec.ofChange treeBackSpec)) treeBackCard

/-- THE SECOND FORM's CARD OF 'tabularlaw07.HeapGives'. -/
def heapGivesUptoCard : Claim7 := { stood := { row := heapGivesUptoRow, standIns := [], harness := (true, "92da396e3b74da7a37f8d3eb178ef87357547cdcc7dac1a4d2a05753f19894c3"), looks := false }, kinds := [], alts := [], laidByText := true, laidKinds := [.data], laidTests := true, laidLooks := .later }
def HeapGivesUptoCardSaid : Prop := Claim7.holds Tryz.pinned (.plain (OpenSpec.upto heapGivesSpec)) heapGivesUptoCard

/-- THE SECOND FORM's CARD OF 'tabularlaw07.HeapFull'. -/
def heapFullUptoCard : Claim7 := { stood := { row := heapFullUptoRow, standIns := [], harness := (true, "92da396e3b74da7a37f8d3eb178ef87357547cdcc7dac1a4d2a05753f19894c3"), looks := false }, kinds := [], alts := [], laidByText := true, laidKinds := [.data], laidTests := true, laidLooks := .later }
def HeapFullUptoCardSaid : Prop := Claim7.holds Tryz.pinned (.plain (OpenSpec.upto heapFullSpec)) heapFullUptoCard

/-- THE SECOND FORM's CARD OF 'tabularlaw07.HeapBack'. -/
def heapBackUptoCard : Claim7 := { stood := { row := heapBackUptoRow, standIns := [], harness := (true, "92da396e3b74da7a37f8d3eb178ef87357547cdcc7dac1a4d2a05753f19894c3"), looks := false }, kinds := [], alts := [], laidByText := true, laidKinds := [.data], laidTests := true, laidLooks := .later }
def HeapBackUptoCardSaid : Prop := Claim7.holds Tryz.pinned (.plain (OpenSpec.upto heapBackSpec)) heapBackUptoCard

/-- THE SECOND FORM's CARD OF 'tabularlaw08.TreePlays'. -/
def treePlaysUptoCard : Claim7 := { stood := { row := treePlaysUptoRow, standIns := [], harness := (true, "92da396e3b74da7a37f8d3eb178ef87357547cdcc7dac1a4d2a05753f19894c3"), looks := false }, kinds := [], alts := [], laidByText := true, laidKinds := [.data], laidTests := true, laidLooks := .later }
def TreePlaysUptoCardSaid : Prop := Claim7.holds Tryz.pinned (.plain (OpenSpec.upto treePlaysSpec)) treePlaysUptoCard

/-- THE SECOND FORM's CARD OF 'tabularlaw08.TreeBack'. -/
def treeBackUptoCard : Claim7 := { stood := { row := treeBackUptoRow, standIns := [], harness := (true, "92da396e3b74da7a37f8d3eb178ef87357547cdcc7dac1a4d2a05753f19894c3"), looks := false }, kinds := [], alts := [], laidByText := true, laidKinds := [.data], laidTests := true, laidLooks := .later }
def TreeBackUptoCardSaid : Prop := Claim7.holds Tryz.pinned (.plain (OpenSpec.upto treeBackSpec)) treeBackUptoCard
end Rows
end Go.Proofs.YtjfkdfffolkblaaGreatDoor
