/-
  DERIVED. GIVEN WITH THE SEED: THE CARDS: each row of YtgpmiliahonaoaaGreatDoorRows.lean that lists a variable, with what it lists TIED to the program's text (the seventh form; the later family's looks); each row that meets fmt, with fmt's text TOLD by the authors' own Lean function (tested against real Go, not proved from fmt's source: count such statements apart). THE CARD IS WHAT COUNTS. Prove the row's statement (the work); the ties are given (YtgpmiliahonaoaaGreatDoorTie.lean); close each card by the builder's one call (the guide's Derived/Test/ToyasCard.lean, 'card_holds'). Laid BY PROGRAM, IN A SANDBOX (cutbox-door.mjs). By AI agents, Wed Nov 11 2026. No macro, syntax, notation, axiom, sorry.
-/
import Derived.Test.YtgpmiliahonaoaaGreatDoorRows
import GoSem.ClaimSeven
namespace Go.Proofs.YtgpmiliahonaoaaGreatDoor
namespace Rows

/-- THE TIED CARD OF 'tabularlaw22.DepsEach'. -/
def depsEachCard : Claim7 := { stood := { row := depsEachRow, standIns := [], harness := (true, "a77c25d108f8fc9e42a314864b47328460839a470a5d67043995a5ad9e9c4301"), looks := false }, kinds := [], alts := [], laidByText := true, laidKinds := [.data], laidTests := true, laidLooks := .later }
def DepsEachCardSaid : Prop := Claim7.holds Tryz.pinned (.plain (OpenSpec.ofChange depsEachSpec)) depsEachCard

/-- THE TIED CARD OF 'tabularlaw22.DepsFull'. -/
def depsFullCard : Claim7 := { stood := { row := depsFullRow, standIns := [], harness := (true, "a77c25d108f8fc9e42a314864b47328460839a470a5d67043995a5ad9e9c4301"), looks := false }, kinds := [], alts := [], laidByText := true, laidKinds := [.data], laidTests := true, laidLooks := .later }
def DepsFullCardSaid : Prop := Claim7.holds Tryz.pinned (.plain (OpenSpec.ofChange depsFullSpec)) depsFullCard

/-- THE TIED CARD OF 'tabularlaw23.OrderChain'. -/
def orderChainCard : Claim7 := { stood := { row := orderChainRow, standIns := [], harness := (true, "a77c25d108f8fc9e42a314864b47328460839a470a5d67043995a5ad9e9c4301"), looks := false }, kinds := [], alts := [], laidByText := true, laidKinds := [.data], laidTests := true, laidLooks := .later }
def OrderChainCardSaid : Prop := Claim7.holds Tryz.pinned (.plain (OpenSpec.ofChange orderChainSpec)) orderChainCard

/-- THE TIED CARD OF 'tabularlaw23.OrderWalks'. -/
def orderWalksCard : Claim7 := { stood := { row := orderWalksRow, standIns := [], harness := (true, "a77c25d108f8fc9e42a314864b47328460839a470a5d67043995a5ad9e9c4301"), looks := false }, kinds := [], alts := [], laidByText := true, laidKinds := [.data], laidTests := true, laidLooks := .later }
def OrderWalksCardSaid : Prop := Claim7.holds Tryz.pinned (.plain (OpenSpec.ofChange orderWalksSpec)) orderWalksCard

/-- THE TIED CARD OF 'tabularlaw23.OrderStops'. -/
def orderStopsCard : Claim7 := { stood := { row := orderStopsRow, standIns := [], harness := (true, "a77c25d108f8fc9e42a314864b47328460839a470a5d67043995a5ad9e9c4301"), looks := false }, kinds := [], alts := [], laidByText := true, laidKinds := [.data], laidTests := true, laidLooks := .later }
def OrderStopsCardSaid : Prop := Claim7.holds Tryz.pinned (.plain (OpenSpec.ofChange orderStopsSpec)) orderStopsCard

/-- THE SECOND FORM's CARD OF 'tabularlaw22.DepsEach'. -/
def depsEachUptoCard : Claim7 := { stood := { row := depsEachUptoRow, standIns := [], harness := (true, "a77c25d108f8fc9e42a314864b47328460839a470a5d67043995a5ad9e9c4301"), looks := false }, kinds := [], alts := [], laidByText := true, laidKinds := [.data], laidTests := true, laidLooks := .later }
def DepsEachUptoCardSaid : Prop := Claim7.holds Tryz.pinned (.plain (OpenSpec.upto depsEachSpec)) depsEachUptoCard

/-- THE SECOND FORM's CARD OF 'tabularlaw22.DepsFull'. -/
def depsFullUptoCard : Claim7 := { stood := { row := depsFullUptoRow, standIns := [], harness := (true, "a77c25d108f8fc9e42a314864b47328460839a470a5d67043995a5ad9e9c4301"), looks := false }, kinds := [], alts := [], laidByText := true, laidKinds := [.data], laidTests := true, laidLooks := .later }
def DepsFullUptoCardSaid : Prop := Claim7.holds Tryz.pinned (.plain (OpenSpec.upto depsFullSpec)) depsFullUptoCard

/-- THE SECOND FORM's CARD OF 'tabularlaw23.OrderChain'. -/
def orderChainUptoCard : Claim7 := { stood := { row := orderChainUptoRow, standIns := [], harness := (true, "a77c25d108f8fc9e42a314864b47328460839a470a5d67043995a5ad9e9c4301"), looks := false }, kinds := [], alts := [], laidByText := true, laidKinds := [.data], laidTests := true, laidLooks := .later }
def OrderChainUptoCardSaid : Prop := Claim7.holds Tryz.pinned (.plain (OpenSpec.upto orderChainSpec)) orderChainUptoCard

/-- THE SECOND FORM's CARD OF 'tabularlaw23.OrderWalks'. -/
def orderWalksUptoCard : Claim7 := { stood := { row := orderWalksUptoRow, standIns := [], harness := (true, "a77c25d108f8fc9e42a314864b47328460839a470a5d67043995a5ad9e9c4301"), looks := false }, kinds := [], alts := [], laidByText := true, laidKinds := [.data], laidTests := true, laidLooks := .later }
def OrderWalksUptoCardSaid : Prop := Claim7.holds Tryz.pinned (.plain (OpenSpec.upto orderWalksSpec)) orderWalksUptoCard

/-- THE SECOND FORM's CARD OF 'tabularlaw23.OrderStops'. -/
def orderStopsUptoCard : Claim7 := { stood := { row := orderStopsUptoRow, standIns := [], harness := (true, "a77c25d108f8fc9e42a314864b47328460839a470a5d67043995a5ad9e9c4301"), looks := false }, kinds := [], alts := [], laidByText := true, laidKinds := [.data], laidTests := true, laidLooks := .later }
def OrderStopsUptoCardSaid : Prop := Claim7.holds Tryz.pinned (.plain (OpenSpec.upto orderStopsSpec)) orderStopsUptoCard
end Rows
end Go.Proofs.YtgpmiliahonaoaaGreatDoor
