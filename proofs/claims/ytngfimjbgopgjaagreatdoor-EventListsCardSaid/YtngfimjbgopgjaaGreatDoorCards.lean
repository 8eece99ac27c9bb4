/-
  DERIVED. GIVEN WITH THE SEED: THE CARDS: each row of YtngfimjbgopgjaaGreatDoorRows.lean that lists a variable, with what it lists TIED to the program's text (the seventh form; the later family's looks); each row that meets fmt, with fmt's text TOLD by the authors' own Lean function (tested against real Go, not proved from fmt's source: count such statements apart). THE CARD IS WHAT COUNTS. Prove the row's statement (the work); the ties are given (YtngfimjbgopgjaaGreatDoorTie.lean); close each card by the builder's one call (the guide's Derived/Test/ToyasCard.lean, 'card_holds'). Laid BY PROGRAM, IN A SANDBOX (cutbox-door.mjs). By AI agents, Wed Nov 11 2026. No macro, syntax, notation, axiom, sorry.
-/
import Derived.Test.YtngfimjbgopgjaaGreatDoorRows
import GoSem.ClaimSeven
namespace Go.Proofs.YtngfimjbgopgjaaGreatDoor
namespace Rows

/-- THE TIED CARD OF 'cutoverlaw10.EventLists'. -/
def eventListsCard : Claim7 := { stood := { row := eventListsRow, standIns := [], harness := (true, "e52fb263f342c14b6749b98551d7c3bbe84b033e3dd2e107f99078df4f1b98ae"), looks := false }, kinds := [], alts := [], laidByText := true, laidKinds := [.data], laidTests := true, laidLooks := .later }
def EventListsCardSaid : Prop := Claim7.holds Tryz.pinned (.plain (OpenSpec.ofChange eventListsSpec)) eventListsCard

/-- THE SECOND FORM's CARD OF 'cutoverlaw10.EventLists'. -/
def eventListsUptoCard : Claim7 := { stood := { row := eventListsUptoRow, standIns := [], harness := (true, "e52fb263f342c14b6749b98551d7c3bbe84b033e3dd2e107f99078df4f1b98ae"), looks := false }, kinds := [], alts := [], laidByText := true, laidKinds := [.data], laidTests := true, laidLooks := .later }
def EventListsUptoCardSaid : Prop := Claim7.holds Tryz.pinned (.plain (OpenSpec.upto eventListsSpec)) eventListsUptoCard
end Rows
end Go.Proofs.YtngfimjbgopgjaaGreatDoor
