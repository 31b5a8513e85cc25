/-
  NARROWER THAN 'FOR EVERY INPUT', by the rows' own cells (each row's printed sentence says how): DepsEach: laid · DepsFull: laid · OrderChain: laid · OrderWalks: laid · OrderStops: laid.
  DERIVED. THE GIVEN ROWS OF THIS SEAT. 5 by the template 'for every input the law returns true; each argument reads behind the call as it read before'; 0 by the template 'total and deterministic' (their statements: YtgpmiliahonaoaaGreatDoorTotals.lean).
  GIVEN WITH THE SEED: the statements are not yours to turn. If you find one false, say at which input.
  Laid BY PROGRAM, IN A SANDBOX (cutbox-rows.mjs): the forced cells as the released guide's own fill.sh prints them over the translation 6dc1090281bee6b8… (all of the seat's roots in one cut). By AI agents, Wed Nov 11 2026. No macro, syntax, notation, axiom, sorry.
-/
import Derived.Test.YtgpmiliahonaoaaGreatDoorChecked
import GoSem.Claim
import GoSem.ClaimJoined
import GoSem.ClaimMapViews
import Derived.JoinedTies
import Derived.KernelRfl
namespace Go.Proofs.YtgpmiliahonaoaaGreatDoor
/- THE CELL 'sum', in the pinned program and in every row, IS THE sha256 OF THE DUMP (.gsa) THAT YtgpmiliahonaoaaGreatDoorProg.lean LOADS. Nothing in Lean hashes anything: it is a label: what it is worth is what the hold of that sum in a sandbox is worth. -/
noncomputable def Tryz.pinned : Pinned := { name := "ytgpmiliahonaoaagreatdoor", sum := "6dc1090281bee6b8c1b2bf2e9334af482b94ca236490cb41722e8c371c322d7b", checked := Tryz.checked }
namespace Rows
def none {H : Type} : Left H := { results := [], args := [] }

/- WHAT THE LISTED PACKAGE-LEVEL VARIABLES READ AS WHEN THE CALL BEGINS. Each datum BY PROGRAM (the guide's laid-datum.mjs) off the statement by which the dump's own 'gosem.cut.vars' lays the variable. In a bare row this is a premise. The card (YtgpmiliahonaoaaGreatDoorCards.lean) ties it to the program's text. -/
def laid_tabular_check_table {H : Type} : DataW H := .agg [.lit (.int .u32 0), .lit (.int .u32 274646895), .lit (.int .u32 549293790), .lit (.int .u32 820201905), .lit (.int .u32 1098587580), .lit (.int .u32 1361435347), .lit (.int .u32 1640403810), .lit (.int .u32 1905808397), .lit (.int .u32 2197175160), .lit (.int .u32 2460548119), .lit (.int .u32 2722870694), .lit (.int .u32 2987750089), .lit (.int .u32 3280807620), .lit (.int .u32 3553878443), .lit (.int .u32 3811616794), .lit (.int .u32 4084100981)]

/-- 'tabularlaw22.DepsEach': WHATEVER THE INPUT: true; the input reads as it did. -/
def depsEachSpec : ChangeSpec := { name := "depsEach", fn := fun _ => fun
  | [d1, d2] => { results := [.lit (.bool true)], args := [d1, d2] }
  | _ => none }
def depsEachRow : OpenClaim := { program := "ytgpmiliahonaoaagreatdoor", sum := "6dc1090281bee6b8c1b2bf2e9334af482b94ca236490cb41722e8c371c322d7b", func := "tabular/tabularlaw22.DepsEach", spec := "depsEach", inPlace := ["slices.overlaps[tabular/deps.entry]", "slices.overlaps[uint64]", "slices.overlaps[int]"], unfollowed := true, recurses := true, named := ["tabular/check.table"], apart := false, laid := [("tabular/check.table", laid_tabular_check_table)] }
def DepsEachSaid : Prop := depsEachRow.holds Tryz.pinned (OpenSpec.ofChange depsEachSpec)

/-- ITS FALSE NEIGHBOUR: 'it returns false'. Refute it at one input. -/
def depsEachWrong : ChangeSpec := { name := "depsEach", fn := fun _ => fun
  | [d1, d2] => { results := [.lit (.bool false)], args := [d1, d2] }
  | _ => none }
def DepsEachWrongFalsely : Prop := depsEachRow.holds Tryz.pinned (OpenSpec.ofChange depsEachWrong)

/-- 'tabularlaw22.DepsFull': WHATEVER THE INPUT: true; the input reads as it did. -/
def depsFullSpec : ChangeSpec := { name := "depsFull", fn := fun _ => fun
  | [d1, d2, d3] => { results := [.lit (.bool true)], args := [d1, d2, d3] }
  | _ => none }
def depsFullRow : OpenClaim := { program := "ytgpmiliahonaoaagreatdoor", sum := "6dc1090281bee6b8c1b2bf2e9334af482b94ca236490cb41722e8c371c322d7b", func := "tabular/tabularlaw22.DepsFull", spec := "depsFull", inPlace := ["slices.overlaps[tabular/deps.entry]", "slices.overlaps[uint64]", "slices.overlaps[int]"], unfollowed := true, recurses := true, named := ["tabular/check.table"], apart := false, laid := [("tabular/check.table", laid_tabular_check_table)] }
def DepsFullSaid : Prop := depsFullRow.holds Tryz.pinned (OpenSpec.ofChange depsFullSpec)

/-- ITS FALSE NEIGHBOUR: 'it returns false'. Refute it at one input. -/
def depsFullWrong : ChangeSpec := { name := "depsFull", fn := fun _ => fun
  | [d1, d2, d3] => { results := [.lit (.bool false)], args := [d1, d2, d3] }
  | _ => none }
def DepsFullWrongFalsely : Prop := depsFullRow.holds Tryz.pinned (OpenSpec.ofChange depsFullWrong)

/-- 'tabularlaw23.OrderChain': WHATEVER THE INPUT: true; the input reads as it did. -/
def orderChainSpec : ChangeSpec := { name := "orderChain", fn := fun _ => fun
  | [d1, d2] => { results := [.lit (.bool true)], args := [d1, d2] }
  | _ => none }
def orderChainRow : OpenClaim := { program := "ytgpmiliahonaoaagreatdoor", sum := "6dc1090281bee6b8c1b2bf2e9334af482b94ca236490cb41722e8c371c322d7b", func := "tabular/tabularlaw23.OrderChain", spec := "orderChain", inPlace := ["slices.overlaps[tabular/deps.entry]", "slices.overlaps[uint64]", "slices.overlaps[int]"], unfollowed := true, recurses := true, named := ["tabular/check.table"], apart := false, laid := [("tabular/check.table", laid_tabular_check_table)] }
def OrderChainSaid : Prop := orderChainRow.holds Tryz.pinned (OpenSpec.ofChange orderChainSpec)

/-- ITS FALSE NEIGHBOUR: 'it returns false'. Refute it at one input. -/
def orderChainWrong : ChangeSpec := { name := "orderChain", fn := fun _ => fun
  | [d1, d2] => { results := [.lit (.bool false)], args := [d1, d2] }
  | _ => none }
def OrderChainWrongFalsely : Prop := orderChainRow.holds Tryz.pinned (OpenSpec.ofChange orderChainWrong)

/-- 'tabularlaw23.OrderWalks': WHATEVER THE INPUT: true; the input reads as it did. -/
def orderWalksSpec : ChangeSpec := { name := "orderWalks", fn := fun _ => fun
  | [d1, d2, d3] => { results := [.lit (.bool true)], args := [d1, d2, d3] }
  | _ => none }
def orderWalksRow : OpenClaim := { program := "ytgpmiliahonaoaagreatdoor", sum := "6dc1090281bee6b8c1b2bf2e9334af482b94ca236490cb41722e8c371c322d7b", func := "tabular/tabularlaw23.OrderWalks", spec := "orderWalks", inPlace := ["slices.overlaps[tabular/deps.entry]", "slices.overlaps[uint64]", "slices.overlaps[int]"], unfollowed := true, recurses := true, named := ["tabular/check.table"], apart := false, laid := [("tabular/check.table", laid_tabular_check_table)] }
def OrderWalksSaid : Prop := orderWalksRow.holds Tryz.pinned (OpenSpec.ofChange orderWalksSpec)

/-- ITS FALSE NEIGHBOUR: 'it returns false'. Refute it at one input. -/
def orderWalksWrong : ChangeSpec := { name := "orderWalks", fn := fun _ => fun
  | [d1, d2, d3] => { results := [.lit (.bool false)], args := [d1, d2, d3] }
  | _ => none }
def OrderWalksWrongFalsely : Prop := orderWalksRow.holds Tryz.pinned (OpenSpec.ofChange orderWalksWrong)

/-- 'tabularlaw23.OrderStops': WHATEVER THE INPUT: true; the input reads as it did. -/
def orderStopsSpec : ChangeSpec := { name := "orderStops", fn := fun _ => fun
  | [d1, d2, d3] => { results := [.lit (.bool true)], args := [d1, d2, d3] }
  | _ => none }
def orderStopsRow : OpenClaim := { program := "ytgpmiliahonaoaagreatdoor", sum := "6dc1090281bee6b8c1b2bf2e9334af482b94ca236490cb41722e8c371c322d7b", func := "tabular/tabularlaw23.OrderStops", spec := "orderStops", inPlace := ["slices.overlaps[tabular/deps.entry]", "slices.overlaps[uint64]", "slices.overlaps[int]"], unfollowed := true, recurses := true, named := ["tabular/check.table"], apart := false, laid := [("tabular/check.table", laid_tabular_check_table)] }
def OrderStopsSaid : Prop := orderStopsRow.holds Tryz.pinned (OpenSpec.ofChange orderStopsSpec)

/-- ITS FALSE NEIGHBOUR: 'it returns false'. Refute it at one input. -/
def orderStopsWrong : ChangeSpec := { name := "orderStops", fn := fun _ => fun
  | [d1, d2, d3] => { results := [.lit (.bool false)], args := [d1, d2, d3] }
  | _ => none }
def OrderStopsWrongFalsely : Prop := orderStopsRow.holds Tryz.pinned (OpenSpec.ofChange orderStopsWrong)

/- THE SECOND FORM. 'bulk': how many values and letters a reading holds, each counted each time it is reached (what is shared counts as often as it is met; a slice's spare places count too). A statement '..UptoSaid' is the law's where the arguments, and the package variables that the reading takes, are together of bulk at most 1048576: NARROWER than '..Said'. Prove '..Said' where nothing that the law and all that it calls make is longer than what came in: it says more and counts as full. Else prove '..UptoSaid'. A law counts once. -/
mutual
def uptoBulk {H : Type} : DataW H → Nat
  | .lit (.string bytes) => bytes.length + 1
  | .lit _ => 1
  | .nil => 1
  | .ptr d => uptoBulk d + 1
  | .slice elems spare => uptoBulkAll elems + uptoBulkAll spare + 1
  | .agg parts => uptoBulkAll parts + 1
  | .iface _ d => uptoBulk d + 1
  | .map entries => uptoBulkEntries entries + 1
  | .held _ => 1
def uptoBulkAll {H : Type} : List (DataW H) → Nat
  | [] => 0
  | d :: r => uptoBulk d + uptoBulkAll r
def uptoBulkEntries {H : Type} : List (Lit × DataW H) → Nat
  | [] => 0
  | x :: r => uptoBulkEntry x + uptoBulkEntries r
def uptoBulkEntry {H : Type} : Lit × DataW H → Nat
  | (.string bytes, d) => bytes.length + uptoBulk d + 1
  | (_, d) => uptoBulk d + 1
 end
def uptoSmall : (H : Type) → List (DataW H) → Bool := fun _ ds => decide (uptoBulkAll ds ≤ 1048576)
def OpenSpec.upto (s : _root_.Go.ChangeSpec) : _root_.Go.OpenSpec := { _root_.Go.OpenSpec.ofChange s with cond := some uptoSmall }

/-- 'tabularlaw22.DepsEach', WHERE WHAT IT READS IS OF BULK AT MOST 1048576: true; the input reads as it did. -/
def depsEachUptoRow : OpenClaim := { program := "ytgpmiliahonaoaagreatdoor", sum := "6dc1090281bee6b8c1b2bf2e9334af482b94ca236490cb41722e8c371c322d7b", func := "tabular/tabularlaw22.DepsEach", spec := "depsEach", inPlace := ["slices.overlaps[tabular/deps.entry]", "slices.overlaps[uint64]", "slices.overlaps[int]"], unfollowed := true, recurses := true, named := ["tabular/check.table"], apart := false, laid := [("tabular/check.table", laid_tabular_check_table)], narrowed := true }
def DepsEachUptoSaid : Prop := depsEachUptoRow.holds Tryz.pinned (OpenSpec.upto depsEachSpec)

/-- 'tabularlaw22.DepsFull', WHERE WHAT IT READS IS OF BULK AT MOST 1048576: true; the input reads as it did. -/
def depsFullUptoRow : OpenClaim := { program := "ytgpmiliahonaoaagreatdoor", sum := "6dc1090281bee6b8c1b2bf2e9334af482b94ca236490cb41722e8c371c322d7b", func := "tabular/tabularlaw22.DepsFull", spec := "depsFull", inPlace := ["slices.overlaps[tabular/deps.entry]", "slices.overlaps[uint64]", "slices.overlaps[int]"], unfollowed := true, recurses := true, named := ["tabular/check.table"], apart := false, laid := [("tabular/check.table", laid_tabular_check_table)], narrowed := true }
def DepsFullUptoSaid : Prop := depsFullUptoRow.holds Tryz.pinned (OpenSpec.upto depsFullSpec)

/-- 'tabularlaw23.OrderChain', WHERE WHAT IT READS IS OF BULK AT MOST 1048576: true; the input reads as it did. -/
def orderChainUptoRow : OpenClaim := { program := "ytgpmiliahonaoaagreatdoor", sum := "6dc1090281bee6b8c1b2bf2e9334af482b94ca236490cb41722e8c371c322d7b", func := "tabular/tabularlaw23.OrderChain", spec := "orderChain", inPlace := ["slices.overlaps[tabular/deps.entry]", "slices.overlaps[uint64]", "slices.overlaps[int]"], unfollowed := true, recurses := true, named := ["tabular/check.table"], apart := false, laid := [("tabular/check.table", laid_tabular_check_table)], narrowed := true }
def OrderChainUptoSaid : Prop := orderChainUptoRow.holds Tryz.pinned (OpenSpec.upto orderChainSpec)

/-- 'tabularlaw23.OrderWalks', WHERE WHAT IT READS IS OF BULK AT MOST 1048576: true; the input reads as it did. -/
def orderWalksUptoRow : OpenClaim := { program := "ytgpmiliahonaoaagreatdoor", sum := "6dc1090281bee6b8c1b2bf2e9334af482b94ca236490cb41722e8c371c322d7b", func := "tabular/tabularlaw23.OrderWalks", spec := "orderWalks", inPlace := ["slices.overlaps[tabular/deps.entry]", "slices.overlaps[uint64]", "slices.overlaps[int]"], unfollowed := true, recurses := true, named := ["tabular/check.table"], apart := false, laid := [("tabular/check.table", laid_tabular_check_table)], narrowed := true }
def OrderWalksUptoSaid : Prop := orderWalksUptoRow.holds Tryz.pinned (OpenSpec.upto orderWalksSpec)

/-- 'tabularlaw23.OrderStops', WHERE WHAT IT READS IS OF BULK AT MOST 1048576: true; the input reads as it did. -/
def orderStopsUptoRow : OpenClaim := { program := "ytgpmiliahonaoaagreatdoor", sum := "6dc1090281bee6b8c1b2bf2e9334af482b94ca236490cb41722e8c371c322d7b", func := "tabular/tabularlaw23.OrderStops", spec := "orderStops", inPlace := ["slices.overlaps[tabular/deps.entry]", "slices.overlaps[uint64]", "slices.overlaps[int]"], unfollowed := true, recurses := true, named := ["tabular/check.table"], apart := false, laid := [("tabular/check.table", laid_tabular_check_table)], narrowed := true }
def OrderStopsUptoSaid : Prop := orderStopsUptoRow.holds Tryz.pinned (OpenSpec.upto orderStopsSpec)

end Rows
end Go.Proofs.YtgpmiliahonaoaaGreatDoor
