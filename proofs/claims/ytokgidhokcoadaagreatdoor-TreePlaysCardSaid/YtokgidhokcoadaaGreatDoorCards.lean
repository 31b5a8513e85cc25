/-
  DERIVED. GIVEN WITH THE SEED: THE CARDS: each row of YtokgidhokcoadaaGreatDoorRows.lean that lists a variable, with what it lists TIED to the program's text (the seventh form; the later family's looks); each row that meets fmt, with fmt's text TOLD by the authors' own Lean function (tested against real Go, not proved from fmt's source: count such statements apart). THE CARD IS WHAT COUNTS. Prove the row's statement (the work); the ties are given (YtokgidhokcoadaaGreatDoorTie.lean); close each card by the builder's one call (the guide's Derived/Test/ToyasCard.lean, 'card_holds'). Laid BY PROGRAM, IN A SANDBOX (cutbox-door.mjs). By AI agents, Wed Nov 11 2026. No macro, syntax, notation, axiom, sorry.
-/
import Derived.Test.YtokgidhokcoadaaGreatDoorRows
import GoSem.ClaimSeven
namespace Go.Proofs.YtokgidhokcoadaaGreatDoor
namespace Rows

/-- THE TIED CARD OF 'tabularlaw08.TreePlays'. -/
def treePlaysCard : Claim7 := { stood := { row := treePlaysRow, standIns := [], harness := (true, "ca96aa91d32fc3b21cba1acd279dca66cef519151325feb104414b3ab6149eef"), looks := false }, kinds := [], alts := [], laidByText := true, laidKinds := [.data], laidTests := true, laidLooks := .later }
def TreePlaysCardSaid : Prop := Claim7.holds Tryz.pinned (.plain (OpenSpec.ofChange treePlaysSpec)) treePlaysCard

/-- THE TIED CARD OF 'tabularlaw08.TreeBack'. -/
def treeBackCard : Claim7 := { stood := { row := treeBackRow, standIns := [], harness := (true, "ca96aa91d32fc3b21cba1acd279dca66cef519151325feb104414b3ab6149eef"), looks := false }, kinds := [], alts := [], laidByText := true, laidKinds := [.data], laidTests := true, laidLooks := .later }
def TreeBackCardSaid : Prop := Claim7.holds Tryz.pinned (.plain (OpenSpec.ofChange treeBackSpec)) treeBackCard

/-- THE TIED CARD OF 'tabularlaw09.SeqTurns'. -/
def seqTurnsCard : Claim7 := { stood := { row := seqTurnsRow, standIns := [], harness := (true, "ca96aa91d32fc3b21cba1acd279dca66cef519151325feb104414b3ab6149eef"), looks := false }, kinds := [], alts := [], laidByText := true, laidKinds := [.data], laidTests := true, laidLooks := .later }
def SeqTurnsCardSaid : Prop := Claim7.holds Tryz.pinned (.plain (OpenSpec.ofChange seqTurnsSpec)) seqTurnsCard

/-- THE TIED CARD OF 'tabularlaw09.SeqPlays'. -/
def seqPlaysCard : Claim7 := { stood := { row := seqPlaysRow, standIns := [], harness := (true, "ca96aa91d32fc3b21cba1acd279dca66cef519151325feb104414b3ab6149eef"), looks := false }, kinds := [], alts := [], laidByText := true, laidKinds := [.data], laidTests := true, laidLooks := .later }
def SeqPlaysCardSaid : Prop := Claim7.holds Tryz.pinned (.plain (OpenSpec.ofChange seqPlaysSpec)) seqPlaysCard

/-- THE TIED CARD OF 'tabularlaw09.SeqBack'. -/
def seqBackCard : Claim7 := { stood := { row := seqBackRow, standIns := [], harness := (true, "ca96aa91d32fc3b21cba1acd279dca66cef519151325feb104414b3ab6149eef"), looks := false }, kinds := [], alts := [], laidByText := true, laidKinds := [.data], laidTests := true, laidLooks := .later }
def SeqBackCardSaid : Prop := Claim7.holds Tryz.pinned (.plain (OpenSpec.ofChange seqBackSpec)) seqBackCard

/-- THE TIED CARD OF 'tabularlaw22.DepsEach'. -/
def depsEachCard : Claim7 := { stood := { row := depsEachRow, standIns := [], harness := (true, "ca96aa91d32fc3b21cba1acd279dca66cef519151325feb104414b3ab6149eef"), looks := false }, kinds := [], alts := [], laidByText := true, laidKinds := [.data], laidTests := true, laidLooks := .later }
def DepsEachCardSaid : Prop := Claim7.holds Tryz.pinned (.plain (OpenSpec.ofChange depsEachSpec)) depsEachCard

/-- THE TIED CARD OF 'tabularlaw22.DepsFull'. -/
def depsFullCard : Claim7 := { stood := { row := depsFullRow, standIns := [], harness := (true, "ca96aa91d32fc3b21cba1acd279dca66cef519151325feb104414b3ab6149eef"), looks := false }, kinds := [], alts := [], laidByText := true, laidKinds := [.data], laidTests := true, laidLooks := .later }
def DepsFullCardSaid : Prop := Claim7.holds Tryz.pinned (.plain (OpenSpec.ofChange depsFullSpec)) depsFullCard

/-- THE TIED CARD OF 'tabularlaw23.OrderChain'. -/
def orderChainCard : Claim7 := { stood := { row := orderChainRow, standIns := [], harness := (true, "ca96aa91d32fc3b21cba1acd279dca66cef519151325feb104414b3ab6149eef"), looks := false }, kinds := [], alts := [], laidByText := true, laidKinds := [.data], laidTests := true, laidLooks := .later }
def OrderChainCardSaid : Prop := Claim7.holds Tryz.pinned (.plain (OpenSpec.ofChange orderChainSpec)) orderChainCard

/-- THE TIED CARD OF 'tabularlaw23.OrderWalks'. -/
def orderWalksCard : Claim7 := { stood := { row := orderWalksRow, standIns := [], harness := (true, "ca96aa91d32fc3b21cba1acd279dca66cef519151325feb104414b3ab6149eef"), looks := false }, kinds := [], alts := [], laidByText := true, laidKinds := [.data], laidTests := true, laidLooks := .later }
def OrderWalksCardSaid : Prop := Claim7.holds Tryz.pinned (.plain (OpenSpec.ofChange orderWalksSpec)) orderWalksCard

/-- THE TIED CARD OF 'tabularlaw23.OrderStops'. -/
def orderStopsCard : Claim7 := { stood := { row := orderStopsRow, standIns := [], harness := (true, "ca96aa91d32fc3b21cba1acd279dca66cef519151325feb104414b3ab6149eef"), looks := false }, kinds := [], alts := [], laidByText := true, laidKinds := [.data], laidTests := true, laidLooks := .later }
def OrderStopsCardSaid : Prop := Claim7.holds Tryz.pinned (.plain (OpenSpec.ofChange orderStopsSpec)) orderStopsCard

/-- THE SECOND FORM's CARD OF 'tabularlaw08.TreePlays'. -/
def treePlaysUptoCard : Claim7 := { stood := { row := treePlaysUptoRow, standIns := [], harness := (true, "ca96aa91d32fc3b21cba1acd279dca66cef519151325feb104414b3ab6149eef"), looks := false }, kinds := [], alts := [], laidByText := true, laidKinds := [.data], laidTests := true, laidLooks := .later }
def TreePlaysUptoCardSaid : Prop := Claim7.holds Tryz.pinned (.plain (OpenSpec.upto treePlaysSpec)) treePlaysUptoCard

/-- THE SECOND FORM's CARD OF 'tabularlaw08.TreeBack'. -/
def treeBackUptoCard : Claim7 := { stood := { row := treeBackUptoRow, standIns := [], harness := (true, "ca96aa91d32fc3b21cba1acd279dca66cef519151325feb104414b3ab6149eef"), looks := false }, kinds := [], alts := [], laidByText := true, laidKinds := [.data], laidTests := true, laidLooks := .later }
def TreeBackUptoCardSaid : Prop := Claim7.holds Tryz.pinned (.plain (OpenSpec.upto treeBackSpec)) treeBackUptoCard

/-- THE SECOND FORM's CARD OF 'tabularlaw09.SeqTurns'. -/
def seqTurnsUptoCard : Claim7 := { stood := { row := seqTurnsUptoRow, standIns := [], harness := (true, "ca96aa91d32fc3b21cba1acd279dca66cef519151325feb104414b3ab6149eef"), looks := false }, kinds := [], alts := [], laidByText := true, laidKinds := [.data], laidTests := true, laidLooks := .later }
def SeqTurnsUptoCardSaid : Prop := Claim7.holds Tryz.pinned (.plain (OpenSpec.upto seqTurnsSpec)) seqTurnsUptoCard

/-- THE SECOND FORM's CARD OF 'tabularlaw09.SeqPlays'. -/
def seqPlaysUptoCard : Claim7 := { stood := { row := seqPlaysUptoRow, standIns := [], harness := (true, "ca96aa91d32fc3b21cba1acd279dca66cef519151325feb104414b3ab6149eef"), looks := false }, kinds := [], alts := [], laidByText := true, laidKinds := [.data], laidTests := true, laidLooks := .later }
def SeqPlaysUptoCardSaid : Prop := Claim7.holds Tryz.pinned (.plain (OpenSpec.upto seqPlaysSpec)) seqPlaysUptoCard

/-- THE SECOND FORM's CARD OF 'tabularlaw09.SeqBack'. -/
def seqBackUptoCard : Claim7 := { stood := { row := seqBackUptoRow, standIns := [], harness := (true, "ca96aa91d32fc3b21cba1acd279dca66cef519151325feb104414b3ab6149eef"), looks := false }, kinds := [], alts := [], laidByText := true, laidKinds := [.data], laidTests := true, laidLooks := .later }
def SeqBackUptoCardSaid : Prop := Claim7.holds Tryz.pinned (.plain (OpenSpec.upto seqBackSpec)) seqBackUptoCard

/-- THE SECOND FORM's CARD OF 'tabularlaw22.DepsEach'. -/
def depsEachUptoCard : Claim7 := { stood := { row := depsEachUptoRow, standIns := [], harness := (true, "ca96aa91d32fc3b21cba1acd279dca66cef519151325feb104414b3ab6149eef"), looks := false }, kinds := [], alts := [], laidByText := true, laidKinds := [.data], laidTests := true, laidLooks := .later }
def DepsEachUptoCardSaid : Prop := Claim7.holds Tryz.pinned (.plain (OpenSpec.upto depsEachSpec)) depsEachUptoCard

/-- THE SECOND FORM's CARD OF 'tabularlaw22.DepsFull'. -/
def depsFullUptoCard : Claim7 := { stood := { row := depsFullUptoRow, standIns := [], harness := (true, "ca96aa91d32fc3b21cba1acd279dca66cef519151325feb104414b3ab6149eef"), looks := false }, kinds := [], alts := [], laidByText := true, laidKinds := [.data], laidTests := true, laidLooks := .later }
def DepsFullUptoCardSaid : Prop := Claim7.holds Tryz.pinned (.plain (OpenSpec.upto depsFullSpec)) depsFullUptoCard

/-- THE SECOND FORM's CARD OF 'tabularlaw23.OrderChain'. -/
def orderChainUptoCard : Claim7 := { stood := { row := orderChainUptoRow, standIns := [], harness := (true, "ca96aa91d32fc3b21cba1acd279dca66cef519151325feb104414b3ab6149eef"), looks := false }, kinds := [], alts := [], laidByText := true, laidKinds := [.data], laidTests := true, laidLooks := .later }
def OrderChainUptoCardSaid : Prop := Claim7.holds Tryz.pinned (.plain (OpenSpec.upto orderChainSpec)) orderChainUptoCard

/-- THE SECOND FORM's CARD OF 'tabularlaw23.OrderWalks'. -/
def orderWalksUptoCard : Claim7 := { stood := { row := orderWalksUptoRow, standIns := [], harness := (true, "ca96aa91d32fc3b21cba1acd279dca66cef519151325feb104414b3ab6149eef"), looks := false }, kinds := [], alts := [], laidByText := true, laidKinds := [.data], laidTests := true, laidLooks := .later }
def OrderWalksUptoCardSaid : Prop := Claim7.holds Tryz.pinned (.plain (OpenSpec.upto orderWalksSpec)) orderWalksUptoCard

/-- THE SECOND FORM's CARD OF 'tabularlaw23.OrderStops'. -/
def orderStopsUptoCard : Claim7 := { stood := { row := orderStopsUptoRow, standIns := [], harness := (true, "ca96aa91d32fc3b21cba1acd279dca66cef519151325feb104414b3ab6149eef"), looks := false }, kinds := [], alts := [], laidByText := true, laidKinds := [.data], laidTests := true, laidLooks := .later }
def OrderStopsUptoCardSaid : Prop := Claim7.holds Tryz.pinned (.plain (OpenSpec.upto orderStopsSpec)) orderStopsUptoCard
end Rows
end Go.Proofs.YtokgidhokcoadaaGreatDoor
