/-
  NARROWER THAN 'FOR EVERY INPUT', by the rows' own cells (each row's printed sentence says how): CheckOpens: laid · CheckChanged: laid · CheckBack: laid · CheckSums: laid · CheckGoesOn: laid.
  DERIVED. THE GIVEN ROWS OF THIS SEAT. 5 by the template 'for every input the law returns true; each argument reads behind the call as it read before'; 0 by the template 'total and deterministic' (their statements: YtpbnghkjbkjllaaDoorTotals.lean).
  GIVEN WITH THE SEED: the statements are not yours to turn. If you find one false, say at which input.
  Laid BY PROGRAM, IN A SANDBOX (cutbox-rows.mjs): the forced cells as the released guide's own fill.sh prints them over the translation 02e084076f4db845… (all of the seat's roots in one cut). By AI agents, Wed Nov 11 2026. No macro, syntax, notation, axiom, sorry.
-/
import Derived.Test.YtpbnghkjbkjllaaDoorChecked
import GoSem.Claim
import GoSem.ClaimJoined
import GoSem.ClaimMapViews
import Derived.JoinedTies
import Derived.KernelRfl
namespace Go.Proofs.YtpbnghkjbkjllaaDoor
/- THE CELL 'sum', in the pinned program and in every row, IS THE sha256 OF THE DUMP (.gsa) THAT YtpbnghkjbkjllaaDoorProg.lean LOADS. Nothing in Lean hashes anything: it is a label: what it is worth is what the hold of that sum in a sandbox is worth. -/
noncomputable def Tryd.pinned : Pinned := { name := "ytpbnghkjbkjllaadoor", sum := "02e084076f4db8450084e728182f06c179bf62d017fbea26dff5bdaf15469bd4", checked := Tryd.checked }
namespace Rows
def none {H : Type} : Left H := { results := [], args := [] }

/- WHAT THE LISTED PACKAGE-LEVEL VARIABLES READ AS WHEN THE CALL BEGINS. Each datum BY PROGRAM (the guide's laid-datum.mjs) off the statement by which the dump's own 'gosem.cut.vars' lays the variable. In a bare row this is a premise. The card (YtpbnghkjbkjllaaDoorCards.lean) ties it to the program's text. -/
def laid_tabular_check_table {H : Type} : DataW H := .agg [.lit (.int .u32 0), .lit (.int .u32 274646895), .lit (.int .u32 549293790), .lit (.int .u32 820201905), .lit (.int .u32 1098587580), .lit (.int .u32 1361435347), .lit (.int .u32 1640403810), .lit (.int .u32 1905808397), .lit (.int .u32 2197175160), .lit (.int .u32 2460548119), .lit (.int .u32 2722870694), .lit (.int .u32 2987750089), .lit (.int .u32 3280807620), .lit (.int .u32 3553878443), .lit (.int .u32 3811616794), .lit (.int .u32 4084100981)]

/-- 'tabularlaw03.CheckOpens': WHATEVER THE INPUT: true; the input reads as it did. -/
def checkOpensSpec : ChangeSpec := { name := "checkOpens", fn := fun _ => fun
  | [d] => { results := [.lit (.bool true)], args := [d] }
  | _ => none }
def checkOpensRow : OpenClaim := { program := "ytpbnghkjbkjllaadoor", sum := "02e084076f4db8450084e728182f06c179bf62d017fbea26dff5bdaf15469bd4", func := "tabular/tabularlaw03.CheckOpens", spec := "checkOpens", named := ["tabular/check.table"], apart := false, laid := [("tabular/check.table", laid_tabular_check_table)] }
def CheckOpensSaid : Prop := checkOpensRow.holds Tryd.pinned (OpenSpec.ofChange checkOpensSpec)

/-- ITS FALSE NEIGHBOUR: 'it returns false'. Refute it at one input. -/
def checkOpensWrong : ChangeSpec := { name := "checkOpens", fn := fun _ => fun
  | [d] => { results := [.lit (.bool false)], args := [d] }
  | _ => none }
def CheckOpensWrongFalsely : Prop := checkOpensRow.holds Tryd.pinned (OpenSpec.ofChange checkOpensWrong)

/-- 'tabularlaw03.CheckChanged': WHATEVER THE INPUT: true; the input reads as it did. -/
def checkChangedSpec : ChangeSpec := { name := "checkChanged", fn := fun _ => fun
  | [d1, d2, d3] => { results := [.lit (.bool true)], args := [d1, d2, d3] }
  | _ => none }
def checkChangedRow : OpenClaim := { program := "ytpbnghkjbkjllaadoor", sum := "02e084076f4db8450084e728182f06c179bf62d017fbea26dff5bdaf15469bd4", func := "tabular/tabularlaw03.CheckChanged", spec := "checkChanged", named := ["tabular/check.table"], apart := false, laid := [("tabular/check.table", laid_tabular_check_table)] }
def CheckChangedSaid : Prop := checkChangedRow.holds Tryd.pinned (OpenSpec.ofChange checkChangedSpec)

/-- ITS FALSE NEIGHBOUR: 'it returns false'. Refute it at one input. -/
def checkChangedWrong : ChangeSpec := { name := "checkChanged", fn := fun _ => fun
  | [d1, d2, d3] => { results := [.lit (.bool false)], args := [d1, d2, d3] }
  | _ => none }
def CheckChangedWrongFalsely : Prop := checkChangedRow.holds Tryd.pinned (OpenSpec.ofChange checkChangedWrong)

/-- 'tabularlaw03.CheckBack': WHATEVER THE INPUT: true; the input reads as it did. -/
def checkBackSpec : ChangeSpec := { name := "checkBack", fn := fun _ => fun
  | [d1, d2] => { results := [.lit (.bool true)], args := [d1, d2] }
  | _ => none }
def checkBackRow : OpenClaim := { program := "ytpbnghkjbkjllaadoor", sum := "02e084076f4db8450084e728182f06c179bf62d017fbea26dff5bdaf15469bd4", func := "tabular/tabularlaw03.CheckBack", spec := "checkBack", named := ["tabular/check.table"], apart := false, laid := [("tabular/check.table", laid_tabular_check_table)] }
def CheckBackSaid : Prop := checkBackRow.holds Tryd.pinned (OpenSpec.ofChange checkBackSpec)

/-- ITS FALSE NEIGHBOUR: 'it returns false'. Refute it at one input. -/
def checkBackWrong : ChangeSpec := { name := "checkBack", fn := fun _ => fun
  | [d1, d2] => { results := [.lit (.bool false)], args := [d1, d2] }
  | _ => none }
def CheckBackWrongFalsely : Prop := checkBackRow.holds Tryd.pinned (OpenSpec.ofChange checkBackWrong)

/-- 'tabularlaw03.CheckSums': WHATEVER THE INPUT: true; the input reads as it did. -/
def checkSumsSpec : ChangeSpec := { name := "checkSums", fn := fun _ => fun
  | [d1, d2, d3] => { results := [.lit (.bool true)], args := [d1, d2, d3] }
  | _ => none }
def checkSumsRow : OpenClaim := { program := "ytpbnghkjbkjllaadoor", sum := "02e084076f4db8450084e728182f06c179bf62d017fbea26dff5bdaf15469bd4", func := "tabular/tabularlaw03.CheckSums", spec := "checkSums", named := ["tabular/check.table"], apart := false, laid := [("tabular/check.table", laid_tabular_check_table)] }
def CheckSumsSaid : Prop := checkSumsRow.holds Tryd.pinned (OpenSpec.ofChange checkSumsSpec)

/-- ITS FALSE NEIGHBOUR: 'it returns false'. Refute it at one input. -/
def checkSumsWrong : ChangeSpec := { name := "checkSums", fn := fun _ => fun
  | [d1, d2, d3] => { results := [.lit (.bool false)], args := [d1, d2, d3] }
  | _ => none }
def CheckSumsWrongFalsely : Prop := checkSumsRow.holds Tryd.pinned (OpenSpec.ofChange checkSumsWrong)

/-- 'tabularlaw03.CheckGoesOn': WHATEVER THE INPUT: true; the input reads as it did. -/
def checkGoesOnSpec : ChangeSpec := { name := "checkGoesOn", fn := fun _ => fun
  | [d1, d2, d3] => { results := [.lit (.bool true)], args := [d1, d2, d3] }
  | _ => none }
def checkGoesOnRow : OpenClaim := { program := "ytpbnghkjbkjllaadoor", sum := "02e084076f4db8450084e728182f06c179bf62d017fbea26dff5bdaf15469bd4", func := "tabular/tabularlaw03.CheckGoesOn", spec := "checkGoesOn", named := ["tabular/check.table"], apart := false, laid := [("tabular/check.table", laid_tabular_check_table)] }
def CheckGoesOnSaid : Prop := checkGoesOnRow.holds Tryd.pinned (OpenSpec.ofChange checkGoesOnSpec)

/-- ITS FALSE NEIGHBOUR: 'it returns false'. Refute it at one input. -/
def checkGoesOnWrong : ChangeSpec := { name := "checkGoesOn", fn := fun _ => fun
  | [d1, d2, d3] => { results := [.lit (.bool false)], args := [d1, d2, d3] }
  | _ => none }
def CheckGoesOnWrongFalsely : Prop := checkGoesOnRow.holds Tryd.pinned (OpenSpec.ofChange checkGoesOnWrong)

/- THE SECOND FORM. 'bulk': how many values and letters a reading holds, each counted each time it is reached (what is shared counts as often as it is met; a slice's spare places count too). A statement '..UptoSaid' is the law's where the arguments, and the package variables that the reading takes, are together of bulk at most 1048576: NARROWER than '..Said'. Prove '..Said' where nothing that the law and all that it calls make is longer than what came in: it says more and counts as full. Else prove '..UptoSaid'. A law counts once. -/
mutual
def uptoBulk {H : Type} : DataW H → Nat
  | .lit (.string bytes) => bytes.length + 1
  | .lit _ => 1
  | .nil => 1
  | .ptr d => uptoBulk d + 1
  | .slice elems spare => uptoBulkAll elems + uptoBulkAll spare + 1
  | .agg parts => uptoBulkAll parts + 1
  | .iface _ d => uptoBulk d + 1
  | .map entries => uptoBulkEntries entries + 1
  | .held _ => 1
def uptoBulkAll {H : Type} : List (DataW H) → Nat
  | [] => 0
  | d :: r => uptoBulk d + uptoBulkAll r
def uptoBulkEntries {H : Type} : List (Lit × DataW H) → Nat
  | [] => 0
  | x :: r => uptoBulkEntry x + uptoBulkEntries r
def uptoBulkEntry {H : Type} : Lit × DataW H → Nat
  | (.string bytes, d) => bytes.length + uptoBulk d + 1
  | (_, d) => uptoBulk d + 1
 end
def uptoSmall : (H : Type) → List (DataW H) → Bool := fun _ ds => decide (uptoBulkAll ds ≤ 1048576)
def OpenSpec.upto (s : _root_.Go.ChangeSpec) : _root_.Go.OpenSpec := { _root_.Go.OpenSpec.ofChange s with cond := some uptoSmall }

/-- 'tabularlaw03.CheckOpens', WHERE WHAT IT READS IS OF BULK AT MOST 1048576: true; the input reads as it did. -/
def checkOpensUptoRow : OpenClaim := { program := "ytpbnghkjbkjllaadoor", sum := "02e084076f4db8450084e728182f06c179bf62d017fbea26dff5bdaf15469bd4", func := "tabular/tabularlaw03.CheckOpens", spec := "checkOpens", named := ["tabular/check.table"], apart := false, laid := [("tabular/check.table", laid_tabular_check_table)], narrowed := true }
def CheckOpensUptoSaid : Prop := checkOpensUptoRow.holds Tryd.pinned (OpenSpec.upto checkOpensSpec)

/-- 'tabularlaw03.CheckChanged', WHERE WHAT IT READS IS OF BULK AT MOST 1048576: true; the input reads as it did. -/
def checkChangedUptoRow : OpenClaim := { program := "ytpbnghkjbkjllaadoor", sum := "02e084076f4db8450084e728182f06c179bf62d017fbea26dff5bdaf15469bd4", func := "tabular/tabularlaw03.CheckChanged", spec := "checkChanged", named := ["tabular/check.table"], apart := false, laid := [("tabular/check.table", laid_tabular_check_table)], narrowed := true }
def CheckChangedUptoSaid : Prop := checkChangedUptoRow.holds Tryd.pinned (OpenSpec.upto checkChangedSpec)

/-- 'tabularlaw03.CheckBack', WHERE WHAT IT READS IS OF BULK AT MOST 1048576: true; the input reads as it did. -/
def checkBackUptoRow : OpenClaim := { program := "ytpbnghkjbkjllaadoor", sum := "02e084076f4db8450084e728182f06c179bf62d017fbea26dff5bdaf15469bd4", func := "tabular/tabularlaw03.CheckBack", spec := "checkBack", named := ["tabular/check.table"], apart := false, laid := [("tabular/check.table", laid_tabular_check_table)], narrowed := true }
def CheckBackUptoSaid : Prop := checkBackUptoRow.holds Tryd.pinned (OpenSpec.upto checkBackSpec)

/-- 'tabularlaw03.CheckSums', WHERE WHAT IT READS IS OF BULK AT MOST 1048576: true; the input reads as it did. -/
def checkSumsUptoRow : OpenClaim := { program := "ytpbnghkjbkjllaadoor", sum := "02e084076f4db8450084e728182f06c179bf62d017fbea26dff5bdaf15469bd4", func := "tabular/tabularlaw03.CheckSums", spec := "checkSums", named := ["tabular/check.table"], apart := false, laid := [("tabular/check.table", laid_tabular_check_table)], narrowed := true }
def CheckSumsUptoSaid : Prop := checkSumsUptoRow.holds Tryd.pinned (OpenSpec.upto checkSumsSpec)

/-- 'tabularlaw03.CheckGoesOn', WHERE WHAT IT READS IS OF BULK AT MOST 1048576: true; the input reads as it did. -/
def checkGoesOnUptoRow : OpenClaim := { program := "ytpbnghkjbkjllaadoor", sum := "02e084076f4db8450084e728182f06c179bf62d017fbea26dff5bdaf15469bd4", func := "tabular/tabularlaw03.CheckGoesOn", spec := "checkGoesOn", named := ["tabular/check.table"], apart := false, laid := [("tabular/check.table", laid_tabular_check_table)], narrowed := true }
def CheckGoesOnUptoSaid : Prop := checkGoesOnUptoRow.holds Tryd.pinned (OpenSpec.upto checkGoesOnSpec)

end Rows
end Go.Proofs.YtpbnghkjbkjllaaDoor
