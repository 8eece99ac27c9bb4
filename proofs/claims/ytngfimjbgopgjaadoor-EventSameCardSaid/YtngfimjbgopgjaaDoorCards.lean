/-
  DERIVED. GIVEN WITH THE SEED: THE CARDS: each row of YtngfimjbgopgjaaDoorRows.lean that lists a variable, with what it lists TIED to the program's text (the seventh form; the later family's looks); each row that meets fmt, with fmt's text TOLD by the authors' own Lean function (tested against real Go, not proved from fmt's source: count such statements apart). THE CARD IS WHAT COUNTS. Prove the row's statement (the work); the ties are given (YtngfimjbgopgjaaDoorTie.lean); close each card by the builder's one call (the guide's Derived/Test/ToyasCard.lean, 'card_holds'). Laid BY PROGRAM, IN A SANDBOX (cutbox-door.mjs). By AI agents, Wed Nov 11 2026. No macro, syntax, notation, axiom, sorry.
-/
import Derived.Test.YtngfimjbgopgjaaDoorRows
import GoSem.ClaimSeven
namespace Go.Proofs.YtngfimjbgopgjaaDoor
namespace Rows

/-- THE TIED CARD OF 'cutoverlaw10.EventCodes'. -/
def eventCodesCard : Claim7 := { stood := { row := eventCodesRow, standIns := [], harness := (true, "52e632ee9946fbe0c01b72ab906a2070ae5487db12129919e771888a92f3eef6"), looks := false }, kinds := [], alts := [], laidByText := true, laidKinds := [.data], laidTests := true, laidLooks := .later }
def EventCodesCardSaid : Prop := Claim7.holds Tryd.pinned (.plain (OpenSpec.ofChange eventCodesSpec)) eventCodesCard

/-- THE TIED CARD OF 'cutoverlaw10.EventBack'. -/
def eventBackCard : Claim7 := { stood := { row := eventBackRow, standIns := [], harness := (true, "52e632ee9946fbe0c01b72ab906a2070ae5487db12129919e771888a92f3eef6"), looks := false }, kinds := [], alts := [], laidByText := true, laidKinds := [.data], laidTests := true, laidLooks := .later }
def EventBackCardSaid : Prop := Claim7.holds Tryd.pinned (.plain (OpenSpec.ofChange eventBackSpec)) eventBackCard

/-- THE TIED CARD OF 'cutoverlaw10.EventSame'. -/
def eventSameCard : Claim7 := { stood := { row := eventSameRow, standIns := [], harness := (true, "52e632ee9946fbe0c01b72ab906a2070ae5487db12129919e771888a92f3eef6"), looks := false }, kinds := [], alts := [], laidByText := true, laidKinds := [.data], laidTests := true, laidLooks := .later }
def EventSameCardSaid : Prop := Claim7.holds Tryd.pinned (.plain (OpenSpec.ofChange eventSameSpec)) eventSameCard

/-- THE TIED CARD OF 'cutoverlaw10.EventLines'. -/
def eventLinesCard : Claim7 := { stood := { row := eventLinesRow, standIns := [], harness := (true, "52e632ee9946fbe0c01b72ab906a2070ae5487db12129919e771888a92f3eef6"), looks := false }, kinds := [], alts := [], laidByText := true, laidKinds := [.data], laidTests := true, laidLooks := .later }
def EventLinesCardSaid : Prop := Claim7.holds Tryd.pinned (.plain (OpenSpec.ofChange eventLinesSpec)) eventLinesCard

/-- THE SECOND FORM's CARD OF 'cutoverlaw10.EventCodes'. -/
def eventCodesUptoCard : Claim7 := { stood := { row := eventCodesUptoRow, standIns := [], harness := (true, "52e632ee9946fbe0c01b72ab906a2070ae5487db12129919e771888a92f3eef6"), looks := false }, kinds := [], alts := [], laidByText := true, laidKinds := [.data], laidTests := true, laidLooks := .later }
def EventCodesUptoCardSaid : Prop := Claim7.holds Tryd.pinned (.plain (OpenSpec.upto eventCodesSpec)) eventCodesUptoCard

/-- THE SECOND FORM's CARD OF 'cutoverlaw10.EventBack'. -/
def eventBackUptoCard : Claim7 := { stood := { row := eventBackUptoRow, standIns := [], harness := (true, "52e632ee9946fbe0c01b72ab906a2070ae5487db12129919e771888a92f3eef6"), looks := false }, kinds := [], alts := [], laidByText := true, laidKinds := [.data], laidTests := true, laidLooks := .later }
def EventBackUptoCardSaid : Prop := Claim7.holds Tryd.pinned (.plain (OpenSpec.upto eventBackSpec)) eventBackUptoCard

/-- THE SECOND FORM's CARD OF 'cutoverlaw10.EventSame'. -/
def eventSameUptoCard : Claim7 := { stood := { row := eventSameUptoRow, standIns := [], harness := (true, "52e632ee9946fbe0c01b72ab906a2070ae5487db12129919e771888a92f3eef6"), looks := false }, kinds := [], alts := [], laidByText := true, laidKinds := [.data], laidTests := true, laidLooks := .later }
def EventSameUptoCardSaid : Prop := Claim7.holds Tryd.pinned (.plain (OpenSpec.upto eventSameSpec)) eventSameUptoCard

/-- THE SECOND FORM's CARD OF 'cutoverlaw10.EventLines'. -/
def eventLinesUptoCard : Claim7 := { stood := { row := eventLinesUptoRow, standIns := [], harness := (true, "52e632ee9946fbe0c01b72ab906a2070ae5487db12129919e771888a92f3eef6"), looks := false }, kinds := [], alts := [], laidByText := true, laidKinds := [.data], laidTests := true, laidLooks := .later }
def EventLinesUptoCardSaid : Prop := Claim7.holds Tryd.pinned (.plain (OpenSpec.upto eventLinesSpec)) eventLinesUptoCard
end Rows
end Go.Proofs.YtngfimjbgopgjaaDoor
