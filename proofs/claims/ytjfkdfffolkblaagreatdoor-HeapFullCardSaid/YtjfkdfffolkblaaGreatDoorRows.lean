/-
  NARROWER THAN 'FOR EVERY INPUT', by the rows' own cells (each row's printed sentence says how): HeapGives: laid · HeapFull: laid · HeapBack: laid · TreePlays: laid · TreeBack: laid.
  DERIVED. THE GIVEN ROWS OF THIS SEAT. 5 by the template 'for every input the law returns true; each argument reads behind the call as it read before'; 0 by the template 'total and deterministic' (their statements: YtjfkdfffolkblaaGreatDoorTotals.lean).
  GIVEN WITH THE SEED: the statements are not yours to turn. If you find one false, say at which input.
  Laid BY PROGRAM, IN A SANDBOX (cutbox-rows.mjs): the forced cells as the released guide's own fill.sh prints them over the translation 7ce6ba73c5767b4f… (all of the seat's roots in one cut). By AI agents, Wed Nov 11 2026. No macro, syntax, notation, axiom, sorry.
-/
import Derived.Test.YtjfkdfffolkblaaGreatDoorChecked
import GoSem.Claim
import GoSem.ClaimJoined
import GoSem.ClaimMapViews
import Derived.JoinedTies
import Derived.KernelRfl
namespace Go.Proofs.YtjfkdfffolkblaaGreatDoor
/- THE CELL 'sum', in the pinned program and in every row, IS THE sha256 OF THE DUMP (.gsa) THAT YtjfkdfffolkblaaGreatDoorProg.lean LOADS. Nothing in Lean hashes anything: it is a label: what it is worth is what the hold of that sum in a sandbox is worth. -/
noncomputable def Tryz.pinned : Pinned := { name := "ytjfkdfffolkblaagreatdoor", sum := "7ce6ba73c5767b4f149487341538f87d00748bb2b03b50ee8c9646bc655a4974", checked := Tryz.checked }
namespace Rows
def none {H : Type} : Left H := { results := [], args := [] }

/- WHAT THE LISTED PACKAGE-LEVEL VARIABLES READ AS WHEN THE CALL BEGINS. Each datum BY PROGRAM (the guide's laid-datum.mjs) off the statement by which the dump's own 'gosem.cut.vars' lays the variable. In a bare row this is a premise. The card (YtjfkdfffolkblaaGreatDoorCards.lean) ties it to the program's text. -/
def laid_tabular_check_table {H : Type} : DataW H := .agg [.lit (.int .u32 0), .lit (.int .u32 274646895), .lit (.int .u32 549293790), .lit (.int .u32 820201905), .lit (.int .u32 1098587580), .lit (.int .u32 1361435347), .lit (.int .u32 1640403810), .lit (.int .u32 1905808397), .lit (.int .u32 2197175160), .lit (.int .u32 2460548119), .lit (.int .u32 2722870694), .lit (.int .u32 2987750089), .lit (.int .u32 3280807620), .lit (.int .u32 3553878443), .lit (.int .u32 3811616794), .lit (.int .u32 4084100981)]

/-- 'tabularlaw07.HeapGives': WHATEVER THE INPUT: true; the input reads as it did. -/
def heapGivesSpec : ChangeSpec := { name := "heapGives", fn := fun _ => fun
  | [d] => { results := [.lit (.bool true)], args := [d] }
  | _ => none }
def heapGivesRow : OpenClaim := { program := "ytjfkdfffolkblaagreatdoor", sum := "7ce6ba73c5767b4f149487341538f87d00748bb2b03b50ee8c9646bc655a4974", func := "tabular/tabularlaw07.HeapGives", spec := "heapGives", unfollowed := true, recurses := true, named := ["tabular/check.table"], apart := false, laid := [("tabular/check.table", laid_tabular_check_table)] }
def HeapGivesSaid : Prop := heapGivesRow.holds Tryz.pinned (OpenSpec.ofChange heapGivesSpec)

/-- ITS FALSE NEIGHBOUR: 'it returns false'. Refute it at one input. -/
def heapGivesWrong : ChangeSpec := { name := "heapGives", fn := fun _ => fun
  | [d] => { results := [.lit (.bool false)], args := [d] }
  | _ => none }
def HeapGivesWrongFalsely : Prop := heapGivesRow.holds Tryz.pinned (OpenSpec.ofChange heapGivesWrong)

/-- 'tabularlaw07.HeapFull': WHATEVER THE INPUT: true; the input reads as it did. -/
def heapFullSpec : ChangeSpec := { name := "heapFull", fn := fun _ => fun
  | [d1, d2, d3] => { results := [.lit (.bool true)], args := [d1, d2, d3] }
  | _ => none }
def heapFullRow : OpenClaim := { program := "ytjfkdfffolkblaagreatdoor", sum := "7ce6ba73c5767b4f149487341538f87d00748bb2b03b50ee8c9646bc655a4974", func := "tabular/tabularlaw07.HeapFull", spec := "heapFull", unfollowed := true, recurses := true, named := ["tabular/check.table"], apart := false, laid := [("tabular/check.table", laid_tabular_check_table)] }
def HeapFullSaid : Prop := heapFullRow.holds Tryz.pinned (OpenSpec.ofChange heapFullSpec)

/-- ITS FALSE NEIGHBOUR: 'it returns false'. Refute it at one input. -/
def heapFullWrong : ChangeSpec := { name := "heapFull", fn := fun _ => fun
  | [d1, d2, d3] => { results := [.lit (.bool false)], args := [d1, d2, d3] }
  | _ => none }
def HeapFullWrongFalsely : Prop := heapFullRow.holds Tryz.pinned (OpenSpec.ofChange heapFullWrong)

/-- 'tabularlaw07.HeapBack': WHATEVER THE INPUT: true; the input reads as it did. -/
def heapBackSpec : ChangeSpec := { name := "heapBack", fn := fun _ => fun
  | [d] => { results := [.lit (.bool true)], args := [d] }
  | _ => none }
def heapBackRow : OpenClaim := { program := "ytjfkdfffolkblaagreatdoor", sum := "7ce6ba73c5767b4f149487341538f87d00748bb2b03b50ee8c9646bc655a4974", func := "tabular/tabularlaw07.HeapBack", spec := "heapBack", unfollowed := true, recurses := true, named := ["tabular/check.table"], apart := false, laid := [("tabular/check.table", laid_tabular_check_table)] }
def HeapBackSaid : Prop := heapBackRow.holds Tryz.pinned (OpenSpec.ofChange heapBackSpec)

/-- ITS FALSE NEIGHBOUR: 'it returns false'. Refute it at one input. -/
def heapBackWrong : ChangeSpec := { name := "heapBack", fn := fun _ => fun
  | [d] => { results := [.lit (.bool false)], args := [d] }
  | _ => none }
def HeapBackWrongFalsely : Prop := heapBackRow.holds Tryz.pinned (OpenSpec.ofChange heapBackWrong)

/-- 'tabularlaw08.TreePlays': WHATEVER THE INPUT: true; the input reads as it did. -/
def treePlaysSpec : ChangeSpec := { name := "treePlays", fn := fun _ => fun
  | [d1, d2, d3] => { results := [.lit (.bool true)], args := [d1, d2, d3] }
  | _ => none }
def treePlaysRow : OpenClaim := { program := "ytjfkdfffolkblaagreatdoor", sum := "7ce6ba73c5767b4f149487341538f87d00748bb2b03b50ee8c9646bc655a4974", func := "tabular/tabularlaw08.TreePlays", spec := "treePlays", inPlace := ["slices.overlaps[uint64]", "slices.overlaps[int]"], unfollowed := true, recurses := true, named := ["tabular/check.table"], apart := false, laid := [("tabular/check.table", laid_tabular_check_table)] }
def TreePlaysSaid : Prop := treePlaysRow.holds Tryz.pinned (OpenSpec.ofChange treePlaysSpec)

/-- ITS FALSE NEIGHBOUR: 'it returns false'. Refute it at one input. -/
def treePlaysWrong : ChangeSpec := { name := "treePlays", fn := fun _ => fun
  | [d1, d2, d3] => { results := [.lit (.bool false)], args := [d1, d2, d3] }
  | _ => none }
def TreePlaysWrongFalsely : Prop := treePlaysRow.holds Tryz.pinned (OpenSpec.ofChange treePlaysWrong)

/-- 'tabularlaw08.TreeBack': WHATEVER THE INPUT: true; the input reads as it did. -/
def treeBackSpec : ChangeSpec := { name := "treeBack", fn := fun _ => fun
  | [d1, d2] => { results := [.lit (.bool true)], args := [d1, d2] }
  | _ => none }
def treeBackRow : OpenClaim := { program := "ytjfkdfffolkblaagreatdoor", sum := "7ce6ba73c5767b4f149487341538f87d00748bb2b03b50ee8c9646bc655a4974", func := "tabular/tabularlaw08.TreeBack", spec := "treeBack", inPlace := ["slices.overlaps[uint64]", "slices.overlaps[int]"], unfollowed := true, recurses := true, named := ["tabular/check.table"], apart := false, laid := [("tabular/check.table", laid_tabular_check_table)] }
def TreeBackSaid : Prop := treeBackRow.holds Tryz.pinned (OpenSpec.ofChange treeBackSpec)

/-- ITS FALSE NEIGHBOUR: 'it returns false'. Refute it at one input. -/
def treeBackWrong : ChangeSpec := { name := "treeBack", fn := fun _ => fun
  | [d1, d2] => { results := [.lit (.bool false)], args := [d1, d2] }
  | _ => none }
def TreeBackWrongFalsely : Prop := treeBackRow.holds Tryz.pinned (OpenSpec.ofChange treeBackWrong)

/- THE SECOND FORM. 'bulk': how many values and letters a reading holds, each counted each time it is reached (what is shared counts as often as it is met; a slice's spare places count too). A statement '..UptoSaid' is the law's where the arguments, and the package variables that the reading takes, are together of bulk at most 1048576: NARROWER than '..Said'. Prove '..Said' where nothing that the law and all that it calls make is longer than what came in: it says more and counts as full. Else prove '..UptoSaid'. A law counts once. -/
mutual
def uptoBulk {H : Type} : DataW H → Nat
  | .lit (.string bytes) => bytes.length + 1
  | .lit _ => 1
  | .nil => 1
  | .ptr d => uptoBulk d + 1
  | .slice elems spare => uptoBulkAll elems + uptoBulkAll spare + 1
  | .agg parts => uptoBulkAll parts + 1
  | .iface _ d => uptoBulk d + 1
  | .map entries => uptoBulkEntries entries + 1
  | .held _ => 1
def uptoBulkAll {H : Type} : List (DataW H) → Nat
  | [] => 0
  | d :: r => uptoBulk d + uptoBulkAll r
def uptoBulkEntries {H : Type} : List (Lit × DataW H) → Nat
  | [] => 0
  | x :: r => uptoBulkEntry x + uptoBulkEntries r
def uptoBulkEntry {H : Type} : Lit × DataW H → Nat
  | (.string bytes, d) => bytes.length + uptoBulk d + 1
  | (_, d) => uptoBulk d + 1
 end
def uptoSmall : (H : Type) → List (DataW H) → Bool := fun _ ds => decide (uptoBulkAll ds ≤ 1048576)
def OpenSpec.upto (s : _root_.Go.ChangeSpec) : _root_.Go.OpenSpec := { _root_.Go.OpenSpec.ofChange s with cond := some uptoSmall }

/-- 'tabularlaw07.HeapGives', WHERE WHAT IT READS IS OF BULK AT MOST 1048576: true; the input reads as it did. -/
def heapGivesUptoRow : OpenClaim := { program := "ytjfkdfffolkblaagreatdoor", sum := "7ce6ba73c5767b4f149487341538f87d00748bb2b03b50ee8c9646bc655a4974", func := "tabular/tabularlaw07.HeapGives", spec := "heapGives", unfollowed := true, recurses := true, named := ["tabular/check.table"], apart := false, laid := [("tabular/check.table", laid_tabular_check_table)], narrowed := true }
def HeapGivesUptoSaid : Prop := heapGivesUptoRow.holds Tryz.pinned (OpenSpec.upto heapGivesSpec)

/-- 'tabularlaw07.HeapFull', WHERE WHAT IT READS IS OF BULK AT MOST 1048576: true; the input reads as it did. -/
def heapFullUptoRow : OpenClaim := { program := "ytjfkdfffolkblaagreatdoor", sum := "7ce6ba73c5767b4f149487341538f87d00748bb2b03b50ee8c9646bc655a4974", func := "tabular/tabularlaw07.HeapFull", spec := "heapFull", unfollowed := true, recurses := true, named := ["tabular/check.table"], apart := false, laid := [("tabular/check.table", laid_tabular_check_table)], narrowed := true }
def HeapFullUptoSaid : Prop := heapFullUptoRow.holds Tryz.pinned (OpenSpec.upto heapFullSpec)

/-- 'tabularlaw07.HeapBack', WHERE WHAT IT READS IS OF BULK AT MOST 1048576: true; the input reads as it did. -/
def heapBackUptoRow : OpenClaim := { program := "ytjfkdfffolkblaagreatdoor", sum := "7ce6ba73c5767b4f149487341538f87d00748bb2b03b50ee8c9646bc655a4974", func := "tabular/tabularlaw07.HeapBack", spec := "heapBack", unfollowed := true, recurses := true, named := ["tabular/check.table"], apart := false, laid := [("tabular/check.table", laid_tabular_check_table)], narrowed := true }
def HeapBackUptoSaid : Prop := heapBackUptoRow.holds Tryz.pinned (OpenSpec.upto heapBackSpec)

/-- 'tabularlaw08.TreePlays', WHERE WHAT IT READS IS OF BULK AT MOST 1048576: true; the input reads as it did. -/
def treePlaysUptoRow : OpenClaim := { program := "ytjfkdfffolkblaagreatdoor", sum := "7ce6ba73c5767b4f149487341538f87d00748bb2b03b50ee8c9646bc655a4974", func := "tabular/tabularlaw08.TreePlays", spec := "treePlays", inPlace := ["slices.overlaps[uint64]", "slices.overlaps[int]"], unfollowed := true, recurses := true, named := ["tabular/check.table"], apart := false, laid := [("tabular/check.table", laid_tabular_check_table)], narrowed := true }
def TreePlaysUptoSaid : Prop := treePlaysUptoRow.holds Tryz.pinned (OpenSpec.upto treePlaysSpec)

/-- 'tabularlaw08.TreeBack', WHERE WHAT IT READS IS OF BULK AT MOST 1048576: true; the input reads as it did. -/
def treeBackUptoRow : OpenClaim := { program := "ytjfkdfffolkblaagreatdoor", sum := "7ce6ba73c5767b4f149487341538f87d00748bb2b03b50ee8c9646bc655a4974", func := "tabular/tabularlaw08.TreeBack", spec := "treeBack", inPlace := ["slices.overlaps[uint64]", "slices.overlaps[int]"], unfollowed := true, recurses := true, named := ["tabular/check.table"], apart := false, laid := [("tabular/check.table", laid_tabular_check_table)], narrowed := true }
def TreeBackUptoSaid : Prop := treeBackUptoRow.holds Tryz.pinned (OpenSpec.upto treeBackSpec)

end Rows
end Go.Proofs.YtjfkdfffolkblaaGreatDoor
