/-
  No cell of these rows narrows 'for every input' (looked for: loops, veiled, ifaces, maps, wideKeys, modest, calm, conditions, laid).
  DERIVED. THE GIVEN ROWS OF THIS SEAT. 4 by the template 'for every input the law returns true; each argument reads behind the call as it read before'; 0 by the template 'total and deterministic' (their statements: YtdbnlcmnnoajoaaTotals.lean).
  GIVEN WITH THE SEED: the statements are not yours to turn. If you find one false, say at which input.
  Laid BY PROGRAM, IN A SANDBOX (cutbox-rows.mjs): the forced cells as the released guide's own fill.sh prints them over the translation 7ac313ab1621a251… (all of the seat's roots in one cut). By AI agents, Wed Nov 11 2026. No macro, syntax, notation, axiom, sorry.
-/
import Derived.Test.YtdbnlcmnnoajoaaChecked
import GoSem.Claim
import GoSem.ClaimJoined
import GoSem.ClaimMapViews
import Derived.JoinedTies
import Derived.KernelRfl
namespace Go.Proofs.Ytdbnlcmnnoajoaa
/- THE CELL 'sum', in the pinned program and in every row, IS THE sha256 OF THE DUMP (.gsa) THAT YtdbnlcmnnoajoaaProg.lean LOADS. Nothing in Lean hashes anything: it is a label: what it is worth is what the hold of that sum in a sandbox is worth. -/
noncomputable def Try.pinned : Pinned := { name := "ytdbnlcmnnoajoaa", sum := "7ac313ab1621a251866fbae216cd3e45376b710fc5c3083113da549a747a73fa", checked := Try.checked }
namespace Rows
def none {H : Type} : Left H := { results := [], args := [] }

/-- 'tabularlaw06.SlotFull': WHATEVER THE INPUT: true; the input reads as it did. -/
def slotFullSpec : ChangeSpec := { name := "slotFull", fn := fun _ => fun
  | [d] => { results := [.lit (.bool true)], args := [d] }
  | _ => none }
def slotFullRow : OpenClaim := { program := "ytdbnlcmnnoajoaa", sum := "7ac313ab1621a251866fbae216cd3e45376b710fc5c3083113da549a747a73fa", func := "tabular/tabularlaw06.SlotFull", spec := "slotFull", apart := false }
def SlotFullSaid : Prop := slotFullRow.holds Try.pinned (OpenSpec.ofChange slotFullSpec)

/-- ITS FALSE NEIGHBOUR: 'it returns false'. Refute it at one input. -/
def slotFullWrong : ChangeSpec := { name := "slotFull", fn := fun _ => fun
  | [d] => { results := [.lit (.bool false)], args := [d] }
  | _ => none }
def SlotFullWrongFalsely : Prop := slotFullRow.holds Try.pinned (OpenSpec.ofChange slotFullWrong)

/-- 'tabularlaw06.SlotRoom': WHATEVER THE INPUT: true; the input reads as it did. -/
def slotRoomSpec : ChangeSpec := { name := "slotRoom", fn := fun _ => fun
  | [d] => { results := [.lit (.bool true)], args := [d] }
  | _ => none }
def slotRoomRow : OpenClaim := { program := "ytdbnlcmnnoajoaa", sum := "7ac313ab1621a251866fbae216cd3e45376b710fc5c3083113da549a747a73fa", func := "tabular/tabularlaw06.SlotRoom", spec := "slotRoom", apart := false }
def SlotRoomSaid : Prop := slotRoomRow.holds Try.pinned (OpenSpec.ofChange slotRoomSpec)

/-- ITS FALSE NEIGHBOUR: 'it returns false'. Refute it at one input. -/
def slotRoomWrong : ChangeSpec := { name := "slotRoom", fn := fun _ => fun
  | [d] => { results := [.lit (.bool false)], args := [d] }
  | _ => none }
def SlotRoomWrongFalsely : Prop := slotRoomRow.holds Try.pinned (OpenSpec.ofChange slotRoomWrong)

/-- 'tabularlaw06.SlotPlays': WHATEVER THE INPUT: true; the input reads as it did. -/
def slotPlaysSpec : ChangeSpec := { name := "slotPlays", fn := fun _ => fun
  | [d1, d2] => { results := [.lit (.bool true)], args := [d1, d2] }
  | _ => none }
def slotPlaysRow : OpenClaim := { program := "ytdbnlcmnnoajoaa", sum := "7ac313ab1621a251866fbae216cd3e45376b710fc5c3083113da549a747a73fa", func := "tabular/tabularlaw06.SlotPlays", spec := "slotPlays", apart := false }
def SlotPlaysSaid : Prop := slotPlaysRow.holds Try.pinned (OpenSpec.ofChange slotPlaysSpec)

/-- ITS FALSE NEIGHBOUR: 'it returns false'. Refute it at one input. -/
def slotPlaysWrong : ChangeSpec := { name := "slotPlays", fn := fun _ => fun
  | [d1, d2] => { results := [.lit (.bool false)], args := [d1, d2] }
  | _ => none }
def SlotPlaysWrongFalsely : Prop := slotPlaysRow.holds Try.pinned (OpenSpec.ofChange slotPlaysWrong)

/-- 'tabularlaw06.SlotStays': WHATEVER THE INPUT: true; the input reads as it did. -/
def slotStaysSpec : ChangeSpec := { name := "slotStays", fn := fun _ => fun
  | [d1, d2] => { results := [.lit (.bool true)], args := [d1, d2] }
  | _ => none }
def slotStaysRow : OpenClaim := { program := "ytdbnlcmnnoajoaa", sum := "7ac313ab1621a251866fbae216cd3e45376b710fc5c3083113da549a747a73fa", func := "tabular/tabularlaw06.SlotStays", spec := "slotStays", apart := false }
def SlotStaysSaid : Prop := slotStaysRow.holds Try.pinned (OpenSpec.ofChange slotStaysSpec)

/-- ITS FALSE NEIGHBOUR: 'it returns false'. Refute it at one input. -/
def slotStaysWrong : ChangeSpec := { name := "slotStays", fn := fun _ => fun
  | [d1, d2] => { results := [.lit (.bool false)], args := [d1, d2] }
  | _ => none }
def SlotStaysWrongFalsely : Prop := slotStaysRow.holds Try.pinned (OpenSpec.ofChange slotStaysWrong)

/- THE SECOND FORM. 'bulk': how many values and letters a reading holds, each counted each time it is reached (what is shared counts as often as it is met; a slice's spare places count too). A statement '..UptoSaid' is the law's where the arguments, and the package variables that the reading takes, are together of bulk at most 1048576: NARROWER than '..Said'. Prove '..Said' where nothing that the law and all that it calls make is longer than what came in: it says more and counts as full. Else prove '..UptoSaid'. A law counts once. -/
mutual
def uptoBulk {H : Type} : DataW H → Nat
  | .lit (.string bytes) => bytes.length + 1
  | .lit _ => 1
  | .nil => 1
  | .ptr d => uptoBulk d + 1
  | .slice elems spare => uptoBulkAll elems + uptoBulkAll spare + 1
  | .agg parts => uptoBulkAll parts + 1
  | .iface _ d => uptoBulk d + 1
  | .map entries => uptoBulkEntries entries + 1
  | .held _ => 1
def uptoBulkAll {H : Type} : List (DataW H) → Nat
  | [] => 0
  | d :: r => uptoBulk d + uptoBulkAll r
def uptoBulkEntries {H : Type} : List (Lit × DataW H) → Nat
  | [] => 0
  | x :: r => uptoBulkEntry x + uptoBulkEntries r
def uptoBulkEntry {H : Type} : Lit × DataW H → Nat
  | (.string bytes, d) => bytes.length + uptoBulk d + 1
  | (_, d) => uptoBulk d + 1
 end
def uptoSmall : (H : Type) → List (DataW H) → Bool := fun _ ds => decide (uptoBulkAll ds ≤ 1048576)
def OpenSpec.upto (s : _root_.Go.ChangeSpec) : _root_.Go.OpenSpec := { _root_.Go.OpenSpec.ofChange s with cond := some uptoSmall }

/-- 'tabularlaw06.SlotFull', WHERE WHAT IT READS IS OF BULK AT MOST 1048576: true; the input reads as it did. -/
def slotFullUptoRow : OpenClaim := { program := "ytdbnlcmnnoajoaa", sum := "7ac313ab1621a251866fbae216cd3e45376b710fc5c3083113da549a747a73fa", func := "tabular/tabularlaw06.SlotFull", spec := "slotFull", apart := false, narrowed := true }
def SlotFullUptoSaid : Prop := slotFullUptoRow.holds Try.pinned (OpenSpec.upto slotFullSpec)

/-- 'tabularlaw06.SlotRoom', WHERE WHAT IT READS IS OF BULK AT MOST 1048576: true; the input reads as it did. -/
def slotRoomUptoRow : OpenClaim := { program := "ytdbnlcmnnoajoaa", sum := "7ac313ab1621a251866fbae216cd3e45376b710fc5c3083113da549a747a73fa", func := "tabular/tabularlaw06.SlotRoom", spec := "slotRoom", apart := false, narrowed := true }
def SlotRoomUptoSaid : Prop := slotRoomUptoRow.holds Try.pinned (OpenSpec.upto slotRoomSpec)

/-- 'tabularlaw06.SlotPlays', WHERE WHAT IT READS IS OF BULK AT MOST 1048576: true; the input reads as it did. -/
def slotPlaysUptoRow : OpenClaim := { program := "ytdbnlcmnnoajoaa", sum := "7ac313ab1621a251866fbae216cd3e45376b710fc5c3083113da549a747a73fa", func := "tabular/tabularlaw06.SlotPlays", spec := "slotPlays", apart := false, narrowed := true }
def SlotPlaysUptoSaid : Prop := slotPlaysUptoRow.holds Try.pinned (OpenSpec.upto slotPlaysSpec)

/-- 'tabularlaw06.SlotStays', WHERE WHAT IT READS IS OF BULK AT MOST 1048576: true; the input reads as it did. -/
def slotStaysUptoRow : OpenClaim := { program := "ytdbnlcmnnoajoaa", sum := "7ac313ab1621a251866fbae216cd3e45376b710fc5c3083113da549a747a73fa", func := "tabular/tabularlaw06.SlotStays", spec := "slotStays", apart := false, narrowed := true }
def SlotStaysUptoSaid : Prop := slotStaysUptoRow.holds Try.pinned (OpenSpec.upto slotStaysSpec)

end Rows
end Go.Proofs.Ytdbnlcmnnoajoaa
