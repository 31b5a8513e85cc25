/-
  NARROWER THAN 'FOR EVERY INPUT', by the rows' own cells (each row's printed sentence says how): SeqTurns: laid · SeqPlays: laid · SeqBack: laid.
  DERIVED. THE GIVEN ROWS OF THIS SEAT. 3 by the template 'for every input the law returns true; each argument reads behind the call as it read before'; 0 by the template 'total and deterministic' (their statements: YtlipgbnnbefhjaaGreatDoorTotals.lean).
  GIVEN WITH THE SEED: the statements are not yours to turn. If you find one false, say at which input.
  Laid BY PROGRAM, IN A SANDBOX (cutbox-rows.mjs): the forced cells as the released guide's own fill.sh prints them over the translation 8928f6db6f7f28a6… (all of the seat's roots in one cut). By AI agents, Wed Nov 11 2026. No macro, syntax, notation, axiom, sorry.
-/
import Derived.Test.YtlipgbnnbefhjaaGreatDoorChecked
import GoSem.Claim
import GoSem.ClaimJoined
import GoSem.ClaimMapViews
import Derived.JoinedTies
import Derived.KernelRfl
namespace Go.Proofs.YtlipgbnnbefhjaaGreatDoor
/- THE CELL 'sum', in the pinned program and in every row, IS THE sha256 OF THE DUMP (.gsa) THAT YtlipgbnnbefhjaaGreatDoorProg.lean LOADS. Nothing in Lean hashes anything: it is a label: what it is worth is what the hold of that sum in a sandbox is worth. -/
noncomputable def Tryz.pinned : Pinned := { name := "ytlipgbnnbefhjaagreatdoor", sum := "8928f6db6f7f28a6fbd034fd1752bdfb1d38331458869a40dfd0cc397ebdb364", checked := Tryz.checked }
namespace Rows
def none {H : Type} : Left H := { results := [], args := [] }

/- WHAT THE LISTED PACKAGE-LEVEL VARIABLES READ AS WHEN THE CALL BEGINS. Each datum BY PROGRAM (the guide's laid-datum.mjs) off the statement by which the dump's own 'gosem.cut.vars' lays the variable. In a bare row this is a premise. The card (YtlipgbnnbefhjaaGreatDoorCards.lean) ties it to the program's text. -/
def laid_tabular_check_table {H : Type} : DataW H := .agg [.lit (.int .u32 0), .lit (.int .u32 274646895), .lit (.int .u32 549293790), .lit (.int .u32 820201905), .lit (.int .u32 1098587580), .lit (.int .u32 1361435347), .lit (.int .u32 1640403810), .lit (.int .u32 1905808397), .lit (.int .u32 2197175160), .lit (.int .u32 2460548119), .lit (.int .u32 2722870694), .lit (.int .u32 2987750089), .lit (.int .u32 3280807620), .lit (.int .u32 3553878443), .lit (.int .u32 3811616794), .lit (.int .u32 4084100981)]

/-- 'tabularlaw09.SeqTurns': WHATEVER THE INPUT: true; the input reads as it did. -/
def seqTurnsSpec : ChangeSpec := { name := "seqTurns", fn := fun _ => fun
  | [d] => { results := [.lit (.bool true)], args := [d] }
  | _ => none }
def seqTurnsRow : OpenClaim := { program := "ytlipgbnnbefhjaagreatdoor", sum := "8928f6db6f7f28a6fbd034fd1752bdfb1d38331458869a40dfd0cc397ebdb364", func := "tabular/tabularlaw09.SeqTurns", spec := "seqTurns", inPlace := ["slices.overlaps[uint64]", "slices.overlaps[int]"], unfollowed := true, recurses := true, named := ["tabular/check.table"], apart := false, laid := [("tabular/check.table", laid_tabular_check_table)] }
def SeqTurnsSaid : Prop := seqTurnsRow.holds Tryz.pinned (OpenSpec.ofChange seqTurnsSpec)

/-- ITS FALSE NEIGHBOUR: 'it returns false'. Refute it at one input. -/
def seqTurnsWrong : ChangeSpec := { name := "seqTurns", fn := fun _ => fun
  | [d] => { results := [.lit (.bool false)], args := [d] }
  | _ => none }
def SeqTurnsWrongFalsely : Prop := seqTurnsRow.holds Tryz.pinned (OpenSpec.ofChange seqTurnsWrong)

/-- 'tabularlaw09.SeqPlays': WHATEVER THE INPUT: true; the input reads as it did. -/
def seqPlaysSpec : ChangeSpec := { name := "seqPlays", fn := fun _ => fun
  | [d1, d2, d3, d4] => { results := [.lit (.bool true)], args := [d1, d2, d3, d4] }
  | _ => none }
def seqPlaysRow : OpenClaim := { program := "ytlipgbnnbefhjaagreatdoor", sum := "8928f6db6f7f28a6fbd034fd1752bdfb1d38331458869a40dfd0cc397ebdb364", func := "tabular/tabularlaw09.SeqPlays", spec := "seqPlays", inPlace := ["slices.overlaps[uint64]", "slices.overlaps[int]"], unfollowed := true, recurses := true, named := ["tabular/check.table"], apart := false, laid := [("tabular/check.table", laid_tabular_check_table)] }
def SeqPlaysSaid : Prop := seqPlaysRow.holds Tryz.pinned (OpenSpec.ofChange seqPlaysSpec)

/-- ITS FALSE NEIGHBOUR: 'it returns false'. Refute it at one input. -/
def seqPlaysWrong : ChangeSpec := { name := "seqPlays", fn := fun _ => fun
  | [d1, d2, d3, d4] => { results := [.lit (.bool false)], args := [d1, d2, d3, d4] }
  | _ => none }
def SeqPlaysWrongFalsely : Prop := seqPlaysRow.holds Tryz.pinned (OpenSpec.ofChange seqPlaysWrong)

/-- 'tabularlaw09.SeqBack': WHATEVER THE INPUT: true; the input reads as it did. -/
def seqBackSpec : ChangeSpec := { name := "seqBack", fn := fun _ => fun
  | [d1, d2] => { results := [.lit (.bool true)], args := [d1, d2] }
  | _ => none }
def seqBackRow : OpenClaim := { program := "ytlipgbnnbefhjaagreatdoor", sum := "8928f6db6f7f28a6fbd034fd1752bdfb1d38331458869a40dfd0cc397ebdb364", func := "tabular/tabularlaw09.SeqBack", spec := "seqBack", inPlace := ["slices.overlaps[uint64]", "slices.overlaps[int]"], unfollowed := true, recurses := true, named := ["tabular/check.table"], apart := false, laid := [("tabular/check.table", laid_tabular_check_table)] }
def SeqBackSaid : Prop := seqBackRow.holds Tryz.pinned (OpenSpec.ofChange seqBackSpec)

/-- ITS FALSE NEIGHBOUR: 'it returns false'. Refute it at one input. -/
def seqBackWrong : ChangeSpec := { name := "seqBack", fn := fun _ => fun
  | [d1, d2] => { results := [.lit (.bool false)], args := [d1, d2] }
  | _ => none }
def SeqBackWrongFalsely : Prop := seqBackRow.holds Tryz.pinned (OpenSpec.ofChange seqBackWrong)

/- THE SECOND FORM. 'bulk': how many values and letters a reading holds, each counted each time it is reached (what is shared counts as often as it is met; a slice's spare places count too). A statement '..UptoSaid' is the law's where the arguments, and the package variables that the reading takes, are together of bulk at most 1048576: NARROWER than '..Said'. Prove '..Said' where nothing that the law and all that it calls make is longer than what came in: it says more and counts as full. Else prove '..UptoSaid'. A law counts once. -/
mutual
def uptoBulk {H : Type} : DataW H → Nat
  | .lit (.string bytes) => bytes.length + 1
  | .lit _ => 1
  | .nil => 1
  | .ptr d => uptoBulk d + 1
  | .slice elems spare => uptoBulkAll elems + uptoBulkAll spare + 1
  | .agg parts => uptoBulkAll parts + 1
  | .iface _ d => uptoBulk d + 1
  | .map entries => uptoBulkEntries entries + 1
  | .held _ => 1
def uptoBulkAll {H : Type} : List (DataW H) → Nat
  | [] => 0
  | d :: r => uptoBulk d + uptoBulkAll r
def uptoBulkEntries {H : Type} : List (Lit × DataW H) → Nat
  | [] => 0
  | x :: r => uptoBulkEntry x + uptoBulkEntries r
def uptoBulkEntry {H : Type} : Lit × DataW H → Nat
  | (.string bytes, d) => bytes.length + uptoBulk d + 1
  | (_, d) => uptoBulk d + 1
 end
def uptoSmall : (H : Type) → List (DataW H) → Bool := fun _ ds => decide (uptoBulkAll ds ≤ 1048576)
def OpenSpec.upto (s : _root_.Go.ChangeSpec) : _root_.Go.OpenSpec := { _root_.Go.OpenSpec.ofChange s with cond := some uptoSmall }

/-- 'tabularlaw09.SeqTurns', WHERE WHAT IT READS IS OF BULK AT MOST 1048576: true; the input reads as it did. -/
def seqTurnsUptoRow : OpenClaim := { program := "ytlipgbnnbefhjaagreatdoor", sum := "8928f6db6f7f28a6fbd034fd1752bdfb1d38331458869a40dfd0cc397ebdb364", func := "tabular/tabularlaw09.SeqTurns", spec := "seqTurns", inPlace := ["slices.overlaps[uint64]", "slices.overlaps[int]"], unfollowed := true, recurses := true, named := ["tabular/check.table"], apart := false, laid := [("tabular/check.table", laid_tabular_check_table)], narrowed := true }
def SeqTurnsUptoSaid : Prop := seqTurnsUptoRow.holds Tryz.pinned (OpenSpec.upto seqTurnsSpec)

/-- 'tabularlaw09.SeqPlays', WHERE WHAT IT READS IS OF BULK AT MOST 1048576: true; the input reads as it did. -/
def seqPlaysUptoRow : OpenClaim := { program := "ytlipgbnnbefhjaagreatdoor", sum := "8928f6db6f7f28a6fbd034fd1752bdfb1d38331458869a40dfd0cc397ebdb364", func := "tabular/tabularlaw09.SeqPlays", spec := "seqPlays", inPlace := ["slices.overlaps[uint64]", "slices.overlaps[int]"], unfollowed := true, recurses := true, named := ["tabular/check.table"], apart := false, laid := [("tabular/check.table", laid_tabular_check_table)], narrowed := true }
def SeqPlaysUptoSaid : Prop := seqPlaysUptoRow.holds Tryz.pinned (OpenSpec.upto seqPlaysSpec)

/-- 'tabularlaw09.SeqBack', WHERE WHAT IT READS IS OF BULK AT MOST 1048576: true; the input reads as it did. -/
def seqBackUptoRow : OpenClaim := { program := "ytlipgbnnbefhjaagreatdoor", sum := "8928f6db6f7f28a6fbd034fd1752bdfb1d38331458869a40dfd0cc397ebdb364", func := "tabular/tabularlaw09.SeqBack", spec := "seqBack", inPlace := ["slices.overlaps[uint64]", "slices.overlaps[int]"], unfollowed := true, recurses := true, named := ["tabular/check.table"], apart := false, laid := [("tabular/check.table", laid_tabular_check_table)], narrowed := true }
def SeqBackUptoSaid : Prop := seqBackUptoRow.holds Tryz.pinned (OpenSpec.upto seqBackSpec)

end Rows
end Go.Proofs.YtlipgbnnbefhjaaGreatDoor
