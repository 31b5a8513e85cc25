/-
  NARROWER THAN 'FOR EVERY INPUT', by the rows' own cells (each row's printed sentence says how): DiskFull: laid · DiskFails: laid · DiskSpoilt: laid · DiskPlays: laid · DiskBack: laid · DiskOpens: laid.
  DERIVED. THE GIVEN ROWS OF THIS SEAT. 6 by the template 'for every input the law returns true; each argument reads behind the call as it read before'; 0 by the template 'total and deterministic' (their statements: YtamnhpijeiigcaaDoorTotals.lean).
  GIVEN WITH THE SEED: the statements are not yours to turn. If you find one false, say at which input.
  Laid BY PROGRAM, IN A SANDBOX (cutbox-rows.mjs): the forced cells as the released guide's own fill.sh prints them over the translation 671dd37b34987166… (all of the seat's roots in one cut). By AI agents, Wed Nov 11 2026. No macro, syntax, notation, axiom, sorry.
-/
import Derived.Test.YtamnhpijeiigcaaDoorChecked
import GoSem.Claim
import GoSem.ClaimJoined
import GoSem.ClaimMapViews
import Derived.JoinedTies
import Derived.KernelRfl
namespace Go.Proofs.YtamnhpijeiigcaaDoor
/- THE CELL 'sum', in the pinned program and in every row, IS THE sha256 OF THE DUMP (.gsa) THAT YtamnhpijeiigcaaDoorProg.lean LOADS. Nothing in Lean hashes anything: it is a label: what it is worth is what the hold of that sum in a sandbox is worth. -/
noncomputable def Tryd.pinned : Pinned := { name := "ytamnhpijeiigcaadoor", sum := "671dd37b34987166031bea3dcc437e8759c9855f8eaa6b678e67bbba73c40ef2", checked := Tryd.checked }
namespace Rows
def none {H : Type} : Left H := { results := [], args := [] }

/- WHAT THE LISTED PACKAGE-LEVEL VARIABLES READ AS WHEN THE CALL BEGINS. Each datum BY PROGRAM (the guide's laid-datum.mjs) off the statement by which the dump's own 'gosem.cut.vars' lays the variable. In a bare row this is a premise. The card (YtamnhpijeiigcaaDoorCards.lean) ties it to the program's text. -/
def laid_tabular_check_table {H : Type} : DataW H := .agg [.lit (.int .u32 0), .lit (.int .u32 274646895), .lit (.int .u32 549293790), .lit (.int .u32 820201905), .lit (.int .u32 1098587580), .lit (.int .u32 1361435347), .lit (.int .u32 1640403810), .lit (.int .u32 1905808397), .lit (.int .u32 2197175160), .lit (.int .u32 2460548119), .lit (.int .u32 2722870694), .lit (.int .u32 2987750089), .lit (.int .u32 3280807620), .lit (.int .u32 3553878443), .lit (.int .u32 3811616794), .lit (.int .u32 4084100981)]

/-- 'tabularlaw04.DiskFull': WHATEVER THE INPUT: true; the input reads as it did. -/
def diskFullSpec : ChangeSpec := { name := "diskFull", fn := fun _ => fun
  | [d1, d2] => { results := [.lit (.bool true)], args := [d1, d2] }
  | _ => none }
def diskFullRow : OpenClaim := { program := "ytamnhpijeiigcaadoor", sum := "671dd37b34987166031bea3dcc437e8759c9855f8eaa6b678e67bbba73c40ef2", func := "tabular/tabularlaw04.DiskFull", spec := "diskFull", named := ["tabular/check.table"], apart := false, laid := [("tabular/check.table", laid_tabular_check_table)] }
def DiskFullSaid : Prop := diskFullRow.holds Tryd.pinned (OpenSpec.ofChange diskFullSpec)

/-- ITS FALSE NEIGHBOUR: 'it returns false'. Refute it at one input. -/
def diskFullWrong : ChangeSpec := { name := "diskFull", fn := fun _ => fun
  | [d1, d2] => { results := [.lit (.bool false)], args := [d1, d2] }
  | _ => none }
def DiskFullWrongFalsely : Prop := diskFullRow.holds Tryd.pinned (OpenSpec.ofChange diskFullWrong)

/-- 'tabularlaw04.DiskFails': WHATEVER THE INPUT: true; the input reads as it did. -/
def diskFailsSpec : ChangeSpec := { name := "diskFails", fn := fun _ => fun
  | [d1, d2, d3] => { results := [.lit (.bool true)], args := [d1, d2, d3] }
  | _ => none }
def diskFailsRow : OpenClaim := { program := "ytamnhpijeiigcaadoor", sum := "671dd37b34987166031bea3dcc437e8759c9855f8eaa6b678e67bbba73c40ef2", func := "tabular/tabularlaw04.DiskFails", spec := "diskFails", named := ["tabular/check.table"], apart := false, laid := [("tabular/check.table", laid_tabular_check_table)] }
def DiskFailsSaid : Prop := diskFailsRow.holds Tryd.pinned (OpenSpec.ofChange diskFailsSpec)

/-- ITS FALSE NEIGHBOUR: 'it returns false'. Refute it at one input. -/
def diskFailsWrong : ChangeSpec := { name := "diskFails", fn := fun _ => fun
  | [d1, d2, d3] => { results := [.lit (.bool false)], args := [d1, d2, d3] }
  | _ => none }
def DiskFailsWrongFalsely : Prop := diskFailsRow.holds Tryd.pinned (OpenSpec.ofChange diskFailsWrong)

/-- 'tabularlaw04.DiskSpoilt': WHATEVER THE INPUT: true; the input reads as it did. -/
def diskSpoiltSpec : ChangeSpec := { name := "diskSpoilt", fn := fun _ => fun
  | [d1, d2, d3] => { results := [.lit (.bool true)], args := [d1, d2, d3] }
  | _ => none }
def diskSpoiltRow : OpenClaim := { program := "ytamnhpijeiigcaadoor", sum := "671dd37b34987166031bea3dcc437e8759c9855f8eaa6b678e67bbba73c40ef2", func := "tabular/tabularlaw04.DiskSpoilt", spec := "diskSpoilt", named := ["tabular/check.table"], apart := false, laid := [("tabular/check.table", laid_tabular_check_table)] }
def DiskSpoiltSaid : Prop := diskSpoiltRow.holds Tryd.pinned (OpenSpec.ofChange diskSpoiltSpec)

/-- ITS FALSE NEIGHBOUR: 'it returns false'. Refute it at one input. -/
def diskSpoiltWrong : ChangeSpec := { name := "diskSpoilt", fn := fun _ => fun
  | [d1, d2, d3] => { results := [.lit (.bool false)], args := [d1, d2, d3] }
  | _ => none }
def DiskSpoiltWrongFalsely : Prop := diskSpoiltRow.holds Tryd.pinned (OpenSpec.ofChange diskSpoiltWrong)

/-- 'tabularlaw04.DiskPlays': WHATEVER THE INPUT: true; the input reads as it did. -/
def diskPlaysSpec : ChangeSpec := { name := "diskPlays", fn := fun _ => fun
  | [d1, d2] => { results := [.lit (.bool true)], args := [d1, d2] }
  | _ => none }
def diskPlaysRow : OpenClaim := { program := "ytamnhpijeiigcaadoor", sum := "671dd37b34987166031bea3dcc437e8759c9855f8eaa6b678e67bbba73c40ef2", func := "tabular/tabularlaw04.DiskPlays", spec := "diskPlays", named := ["tabular/check.table"], apart := false, laid := [("tabular/check.table", laid_tabular_check_table)] }
def DiskPlaysSaid : Prop := diskPlaysRow.holds Tryd.pinned (OpenSpec.ofChange diskPlaysSpec)

/-- ITS FALSE NEIGHBOUR: 'it returns false'. Refute it at one input. -/
def diskPlaysWrong : ChangeSpec := { name := "diskPlays", fn := fun _ => fun
  | [d1, d2] => { results := [.lit (.bool false)], args := [d1, d2] }
  | _ => none }
def DiskPlaysWrongFalsely : Prop := diskPlaysRow.holds Tryd.pinned (OpenSpec.ofChange diskPlaysWrong)

/-- 'tabularlaw04.DiskBack': WHATEVER THE INPUT: true; the input reads as it did. -/
def diskBackSpec : ChangeSpec := { name := "diskBack", fn := fun _ => fun
  | [d] => { results := [.lit (.bool true)], args := [d] }
  | _ => none }
def diskBackRow : OpenClaim := { program := "ytamnhpijeiigcaadoor", sum := "671dd37b34987166031bea3dcc437e8759c9855f8eaa6b678e67bbba73c40ef2", func := "tabular/tabularlaw04.DiskBack", spec := "diskBack", named := ["tabular/check.table"], apart := false, laid := [("tabular/check.table", laid_tabular_check_table)] }
def DiskBackSaid : Prop := diskBackRow.holds Tryd.pinned (OpenSpec.ofChange diskBackSpec)

/-- ITS FALSE NEIGHBOUR: 'it returns false'. Refute it at one input. -/
def diskBackWrong : ChangeSpec := { name := "diskBack", fn := fun _ => fun
  | [d] => { results := [.lit (.bool false)], args := [d] }
  | _ => none }
def DiskBackWrongFalsely : Prop := diskBackRow.holds Tryd.pinned (OpenSpec.ofChange diskBackWrong)

/-- 'tabularlaw04.DiskOpens': WHATEVER THE INPUT: true; the input reads as it did. -/
def diskOpensSpec : ChangeSpec := { name := "diskOpens", fn := fun _ => fun
  | [d1, d2, d3, d4, d5, d6] => { results := [.lit (.bool true)], args := [d1, d2, d3, d4, d5, d6] }
  | _ => none }
def diskOpensRow : OpenClaim := { program := "ytamnhpijeiigcaadoor", sum := "671dd37b34987166031bea3dcc437e8759c9855f8eaa6b678e67bbba73c40ef2", func := "tabular/tabularlaw04.DiskOpens", spec := "diskOpens", named := ["tabular/check.table"], apart := false, laid := [("tabular/check.table", laid_tabular_check_table)] }
def DiskOpensSaid : Prop := diskOpensRow.holds Tryd.pinned (OpenSpec.ofChange diskOpensSpec)

/-- ITS FALSE NEIGHBOUR: 'it returns false'. Refute it at one input. -/
def diskOpensWrong : ChangeSpec := { name := "diskOpens", fn := fun _ => fun
  | [d1, d2, d3, d4, d5, d6] => { results := [.lit (.bool false)], args := [d1, d2, d3, d4, d5, d6] }
  | _ => none }
def DiskOpensWrongFalsely : Prop := diskOpensRow.holds Tryd.pinned (OpenSpec.ofChange diskOpensWrong)

/- THE SECOND FORM. 'bulk': how many values and letters a reading holds, each counted each time it is reached (what is shared counts as often as it is met; a slice's spare places count too). A statement '..UptoSaid' is the law's where the arguments, and the package variables that the reading takes, are together of bulk at most 1048576: NARROWER than '..Said'. Prove '..Said' where nothing that the law and all that it calls make is longer than what came in: it says more and counts as full. Else prove '..UptoSaid'. A law counts once. -/
mutual
def uptoBulk {H : Type} : DataW H → Nat
  | .lit (.string bytes) => bytes.length + 1
  | .lit _ => 1
  | .nil => 1
  | .ptr d => uptoBulk d + 1
  | .slice elems spare => uptoBulkAll elems + uptoBulkAll spare + 1
  | .agg parts => uptoBulkAll parts + 1
  | .iface _ d => uptoBulk d + 1
  | .map entries => uptoBulkEntries entries + 1
  | .held _ => 1
def uptoBulkAll {H : Type} : List (DataW H) → Nat
  | [] => 0
  | d :: r => uptoBulk d + uptoBulkAll r
def uptoBulkEntries {H : Type} : List (Lit × DataW H) → Nat
  | [] => 0
  | x :: r => uptoBulkEntry x + uptoBulkEntries r
def uptoBulkEntry {H : Type} : Lit × DataW H → Nat
  | (.string bytes, d) => bytes.length + uptoBulk d + 1
  | (_, d) => uptoBulk d + 1
 end
def uptoSmall : (H : Type) → List (DataW H) → Bool := fun _ ds => decide (uptoBulkAll ds ≤ 1048576)
def OpenSpec.upto (s : _root_.Go.ChangeSpec) : _root_.Go.OpenSpec := { _root_.Go.OpenSpec.ofChange s with cond := some uptoSmall }

/-- 'tabularlaw04.DiskFull', WHERE WHAT IT READS IS OF BULK AT MOST 1048576: true; the input reads as it did. -/
def diskFullUptoRow : OpenClaim := { program := "ytamnhpijeiigcaadoor", sum := "671dd37b34987166031bea3dcc437e8759c9855f8eaa6b678e67bbba73c40ef2", func := "tabular/tabularlaw04.DiskFull", spec := "diskFull", named := ["tabular/check.table"], apart := false, laid := [("tabular/check.table", laid_tabular_check_table)], narrowed := true }
def DiskFullUptoSaid : Prop := diskFullUptoRow.holds Tryd.pinned (OpenSpec.upto diskFullSpec)

/-- 'tabularlaw04.DiskFails', WHERE WHAT IT READS IS OF BULK AT MOST 1048576: true; the input reads as it did. -/
def diskFailsUptoRow : OpenClaim := { program := "ytamnhpijeiigcaadoor", sum := "671dd37b34987166031bea3dcc437e8759c9855f8eaa6b678e67bbba73c40ef2", func := "tabular/tabularlaw04.DiskFails", spec := "diskFails", named := ["tabular/check.table"], apart := false, laid := [("tabular/check.table", laid_tabular_check_table)], narrowed := true }
def DiskFailsUptoSaid : Prop := diskFailsUptoRow.holds Tryd.pinned (OpenSpec.upto diskFailsSpec)

/-- 'tabularlaw04.DiskSpoilt', WHERE WHAT IT READS IS OF BULK AT MOST 1048576: true; the input reads as it did. -/
def diskSpoiltUptoRow : OpenClaim := { program := "ytamnhpijeiigcaadoor", sum := "671dd37b34987166031bea3dcc437e8759c9855f8eaa6b678e67bbba73c40ef2", func := "tabular/tabularlaw04.DiskSpoilt", spec := "diskSpoilt", named := ["tabular/check.table"], apart := false, laid := [("tabular/check.table", laid_tabular_check_table)], narrowed := true }
def DiskSpoiltUptoSaid : Prop := diskSpoiltUptoRow.holds Tryd.pinned (OpenSpec.upto diskSpoiltSpec)

/-- 'tabularlaw04.DiskPlays', WHERE WHAT IT READS IS OF BULK AT MOST 1048576: true; the input reads as it did. -/
def diskPlaysUptoRow : OpenClaim := { program := "ytamnhpijeiigcaadoor", sum := "671dd37b34987166031bea3dcc437e8759c9855f8eaa6b678e67bbba73c40ef2", func := "tabular/tabularlaw04.DiskPlays", spec := "diskPlays", named := ["tabular/check.table"], apart := false, laid := [("tabular/check.table", laid_tabular_check_table)], narrowed := true }
def DiskPlaysUptoSaid : Prop := diskPlaysUptoRow.holds Tryd.pinned (OpenSpec.upto diskPlaysSpec)

/-- 'tabularlaw04.DiskBack', WHERE WHAT IT READS IS OF BULK AT MOST 1048576: true; the input reads as it did. -/
def diskBackUptoRow : OpenClaim := { program := "ytamnhpijeiigcaadoor", sum := "671dd37b34987166031bea3dcc437e8759c9855f8eaa6b678e67bbba73c40ef2", func := "tabular/tabularlaw04.DiskBack", spec := "diskBack", named := ["tabular/check.table"], apart := false, laid := [("tabular/check.table", laid_tabular_check_table)], narrowed := true }
def DiskBackUptoSaid : Prop := diskBackUptoRow.holds Tryd.pinned (OpenSpec.upto diskBackSpec)

/-- 'tabularlaw04.DiskOpens', WHERE WHAT IT READS IS OF BULK AT MOST 1048576: true; the input reads as it did. -/
def diskOpensUptoRow : OpenClaim := { program := "ytamnhpijeiigcaadoor", sum := "671dd37b34987166031bea3dcc437e8759c9855f8eaa6b678e67bbba73c40ef2", func := "tabular/tabularlaw04.DiskOpens", spec := "diskOpens", named := ["tabular/check.table"], apart := false, laid := [("tabular/check.table", laid_tabular_check_table)], narrowed := true }
def DiskOpensUptoSaid : Prop := diskOpensUptoRow.holds Tryd.pinned (OpenSpec.upto diskOpensSpec)

end Rows
end Go.Proofs.YtamnhpijeiigcaaDoor
