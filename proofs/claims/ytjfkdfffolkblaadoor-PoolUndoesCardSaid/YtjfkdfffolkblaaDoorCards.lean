/-
  DERIVED. GIVEN WITH THE SEED: THE CARDS: each row of YtjfkdfffolkblaaDoorRows.lean that lists a variable, with what it lists TIED to the program's text (the seventh form; the later family's looks); each row that meets fmt, with fmt's text TOLD by the authors' own Lean function (tested against real Go, not proved from fmt's source: count such statements apart). THE CARD IS WHAT COUNTS. Prove the row's statement (the work); the ties are given (YtjfkdfffolkblaaDoorTie.lean); close each card by the builder's one call (the guide's Derived/Test/ToyasCard.lean, 'card_holds'). Laid BY PROGRAM, IN A SANDBOX (cutbox-door.mjs). By AI agents, Wed Nov 11 2026. No macro, syntax, notation, axiom, sorry.
-/
import Derived.Test.YtjfkdfffolkblaaDoorRows
import GoSem.ClaimSeven
namespace Go.Proofs.YtjfkdfffolkblaaDoor
namespace Rows

/-- THE TIED CARD OF 'tabularlaw07.HeapLengths'. -/
def heapLengthsCard : Claim7 := { stood := { row := heapLengthsRow, standIns := [], harness := (true, "a90b20495d2167073004db1ef8b6668a56870e84d324fff7f11604575a5da16e"), looks := false }, kinds := [], alts := [], laidByText := true, laidKinds := [.data], laidTests := true, laidLooks := .later }
def HeapLengthsCardSaid : Prop := Claim7.holds Tryd.pinned (.plain (OpenSpec.ofChange heapLengthsSpec)) heapLengthsCard

/-- THE TIED CARD OF 'tabularlaw05.PoolUndoes'. -/
def poolUndoesCard : Claim7 := { stood := { row := poolUndoesRow, standIns := [], harness := (true, "a90b20495d2167073004db1ef8b6668a56870e84d324fff7f11604575a5da16e"), looks := false }, kinds := [], alts := [], laidByText := true, laidKinds := [.data], laidTests := true, laidLooks := .later }
def PoolUndoesCardSaid : Prop := Claim7.holds Tryd.pinned (.plain (OpenSpec.ofChange poolUndoesSpec)) poolUndoesCard

/-- THE TIED CARD OF 'tabularlaw08.TreeEnds'. -/
def treeEndsCard : Claim7 := { stood := { row := treeEndsRow, standIns := [], harness := (true, "a90b20495d2167073004db1ef8b6668a56870e84d324fff7f11604575a5da16e"), looks := false }, kinds := [], alts := [], laidByText := true, laidKinds := [.data], laidTests := true, laidLooks := .later }
def TreeEndsCardSaid : Prop := Claim7.holds Tryd.pinned (.plain (OpenSpec.ofChange treeEndsSpec)) treeEndsCard

/-- THE SECOND FORM's CARD OF 'tabularlaw07.HeapLengths'. -/
def heapLengthsUptoCard : Claim7 := { stood := { row := heapLengthsUptoRow, standIns := [], harness := (true, "a90b20495d2167073004db1ef8b6668a56870e84d324fff7f11604575a5da16e"), looks := false }, kinds := [], alts := [], laidByText := true, laidKinds := [.data], laidTests := true, laidLooks := .later }
def HeapLengthsUptoCardSaid : Prop := Claim7.holds Tryd.pinned (.plain (OpenSpec.upto heapLengthsSpec)) heapLengthsUptoCard

/-- THE SECOND FORM's CARD OF 'tabularlaw05.PoolUndoes'. -/
def poolUndoesUptoCard : Claim7 := { stood := { row := poolUndoesUptoRow, standIns := [], harness := (true, "a90b20495d2167073004db1ef8b6668a56870e84d324fff7f11604575a5da16e"), looks := false }, kinds := [], alts := [], laidByText := true, laidKinds := [.data], laidTests := true, laidLooks := .later }
def PoolUndoesUptoCardSaid : Prop := Claim7.holds Tryd.pinned (.plain (OpenSpec.upto poolUndoesSpec)) poolUndoesUptoCard

/-- THE SECOND FORM's CARD OF 'tabularlaw08.TreeEnds'. -/
def treeEndsUptoCard : Claim7 := { stood := { row := treeEndsUptoRow, standIns := [], harness := (true, "a90b20495d2167073004db1ef8b6668a56870e84d324fff7f11604575a5da16e"), looks := false }, kinds := [], alts := [], laidByText := true, laidKinds := [.data], laidTests := true, laidLooks := .later }
def TreeEndsUptoCardSaid : Prop := Claim7.holds Tryd.pinned (.plain (OpenSpec.upto treeEndsSpec)) treeEndsUptoCard
end Rows
end Go.Proofs.YtjfkdfffolkblaaDoor
