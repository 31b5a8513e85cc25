/-
  DERIVED. GIVEN WITH THE SEED: THE CARDS: each row of YtpbnghkjbkjllaaDoorRows.lean that lists a variable, with what it lists TIED to the program's text (the seventh form; the later family's looks); each row that meets fmt, with fmt's text TOLD by the authors' own Lean function (tested against real Go, not proved from fmt's source: count such statements apart). THE CARD IS WHAT COUNTS. Prove the row's statement (the work); the ties are given (YtpbnghkjbkjllaaDoorTie.lean); close each card by the builder's one call (the guide's Derived/Test/ToyasCard.lean, 'card_holds'). Laid BY PROGRAM, IN A SANDBOX (cutbox-door.mjs). By AI agents, Wed Nov 11 2026. No macro, syntax, notation, axiom, sorry.
-/
import Derived.Test.YtpbnghkjbkjllaaDoorRows
import GoSem.ClaimSeven
namespace Go.Proofs.YtpbnghkjbkjllaaDoor
namespace Rows

/-- THE TIED CARD OF 'tabularlaw03.CheckOpens'. -/
def checkOpensCard : Claim7 := { stood := { row := checkOpensRow, standIns := [], harness := (true, "3a8e952343e45fc61f44631ffe564f8d0fa5a12871162cc5d4cd1515a625df8d"), looks := false }, kinds := [], alts := [], laidByText := true, laidKinds := [.data], laidTests := true, laidLooks := .later }
def CheckOpensCardSaid : Prop := Claim7.holds Tryd.pinned (.plain (OpenSpec.ofChange checkOpensSpec)) checkOpensCard

/-- THE TIED CARD OF 'tabularlaw03.CheckChanged'. -/
def checkChangedCard : Claim7 := { stood := { row := checkChangedRow, standIns := [], harness := (true, "3a8e952343e45fc61f44631ffe564f8d0fa5a12871162cc5d4cd1515a625df8d"), looks := false }, kinds := [], alts := [], laidByText := true, laidKinds := [.data], laidTests := true, laidLooks := .later }
def CheckChangedCardSaid : Prop := Claim7.holds Tryd.pinned (.plain (OpenSpec.ofChange checkChangedSpec)) checkChangedCard

/-- THE TIED CARD OF 'tabularlaw03.CheckBack'. -/
def checkBackCard : Claim7 := { stood := { row := checkBackRow, standIns := [], harness := (true, "3a8e952343e45fc61f44631ffe564f8d0fa5a12871162cc5d4cd1515a625df8d"), looks := false }, kinds := [], alts := [], laidByText := true, laidKinds := [.data], laidTests := true, laidLooks := .later }
def CheckBackCardSaid : Prop := Claim7.holds Tryd.pinned (.plain (OpenSpec.ofChange checkBackSpec)) checkBackCard

/-- THE TIED CARD OF 'tabularlaw03.CheckSums'. -/
def checkSumsCard : Claim7 := { stood := { row := checkSumsRow, standIns := [], harness := (true, "3a8e952343e45fc61f44631ffe564f8d0fa5a12871162cc5d4cd1515a625df8d"), looks := false }, kinds := [], alts := [], laidByText := true, laidKinds := [.data], laidTests := true, laidLooks := .later }
def CheckSumsCardSaid : Prop := Claim7.holds Tryd.pinned (.plain (OpenSpec.ofChange checkSumsSpec)) checkSumsCard

/-- THE TIED CARD OF 'tabularlaw03.CheckGoesOn'. -/
def checkGoesOnCard : Claim7 := { stood := { row := checkGoesOnRow, standIns := [], harness := (true, "3a8e952343e45fc61f44631ffe564f8d0fa5a12871162cc5d4cd1515a625df8d"), looks := false }, kinds := [], alts := [], laidByText := true, laidKinds := [.data], laidTests := true, laidLooks := .later }
def CheckGoesOnCardSaid : Prop := Claim7.holds Tryd.pinned (.plain (OpenSpec.ofChange checkGoesOnSpec)) checkGoesOnCard

/-- THE SECOND FORM's CARD OF 'tabularlaw03.CheckOpens'. -/
def checkOpensUptoCard : Claim7 := { stood := { row := checkOpensUptoRow, standIns := [], harness := (true, "3a8e952343e45fc61f44631ffe564f8d0fa5a12871162cc5d4cd1515a625df8d"), looks := false }, kinds := [], alts := [], laidByText := true, laidKinds := [.data], laidTests := true, laidLooks := .later }
def CheckOpensUptoCardSaid : Prop := Claim7.holds Tryd.pinned (.plain (OpenSpec.upto checkOpensSpec)) checkOpensUptoCard

/-- THE SECOND FORM's CARD OF 'tabularlaw03.CheckChanged'. -/
def checkChangedUptoCard : Claim7 := { stood := { row := checkChangedUptoRow, standIns := [], harness := (true, "3a8e952343e45fc61f44631ffe564f8d0fa5a12871162cc5d4cd1515a625df8d"), looks := false }, kinds := [], alts := [], laidByText := true, laidKinds := [.data], laidTests := true, laidLooks := .later }
def CheckChangedUptoCardSaid : Prop := Claim7.holds Tryd.pinned (.plain (OpenSpec.upto checkChangedSpec)) checkChangedUptoCard

/-- THE SECOND FORM's CARD OF 'tabularlaw03.CheckBack'. -/
def checkBackUptoCard : Claim7 := { stood := { row := checkBackUptoRow, standIns := [], harness := (true, "3a8e952343e45fc61f44631ffe564f8d0fa5a12871162cc5d4cd1515a625df8d"), looks := false }, kinds := [], alts := [], laidByText := true, laidKinds := [.data], laidTests := true, laidLooks := .later }
def CheckBackUptoCardSaid : Prop := Claim7.holds Tryd.pinned (.plain (OpenSpec.upto checkBackSpec)) checkBackUptoCard

/-- THE SECOND FORM's CARD OF 'tabularlaw03.CheckSums'. -/
def checkSumsUptoCard : Claim7 := { stood := { row := checkSumsUptoRow, standIns := [], harness := (true, "3a8e952343e45fc61f44631ffe564f8d0fa5a12871162cc5d4cd1515a625df8d"), looks := false }, kinds := [], alts := [], laidByText := true, laidKinds := [.data], laidTests := true, laidLooks := .later }
def CheckSumsUptoCardSaid : Prop := Claim7.holds Tryd.pinned (.plain (OpenSpec.upto checkSumsSpec)) checkSumsUptoCard

/-- THE SECOND FORM's CARD OF 'tabularlaw03.CheckGoesOn'. -/
def checkGoesOnUptoCard : Claim7 := { stood := { row := checkGoesOnUptoRow, standIns := [], harness := (true, "3a8e952343e45fc61f44631ffe564f8d0fa5a12871162cc5d4cd1515a625df8d"), looks := false }, kinds := [], alts := [], laidByText := true, laidKinds := [.data], laidTests := true, laidLooks := .later }
def CheckGoesOnUptoCardSaid : Prop := Claim7.holds Tryd.pinned (.plain (OpenSpec.upto checkGoesOnSpec)) checkGoesOnUptoCard
end Rows
end Go.Proofs.YtpbnghkjbkjllaaDoor
