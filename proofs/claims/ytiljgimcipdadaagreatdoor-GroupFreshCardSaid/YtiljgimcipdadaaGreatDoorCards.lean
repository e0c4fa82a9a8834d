/-
  DERIVED. GIVEN WITH THE SEED: THE CARDS: each row of YtiljgimcipdadaaGreatDoorRows.lean that lists a variable, with what it lists TIED to the program's text (the seventh form; the later family's looks); each row that meets fmt, with fmt's text TOLD by the authors' own Lean function (tested against real Go, not proved from fmt's source: count such statements apart). THE CARD IS WHAT COUNTS. Prove the row's statement (the work); the ties are given (YtiljgimcipdadaaGreatDoorTie.lean); close each card by the builder's one call (the guide's Derived/Test/ToyasCard.lean, 'card_holds'). Laid BY PROGRAM, IN A SANDBOX (cutbox-door.mjs). By AI agents, Wed Nov 11 2026. No macro, syntax, notation, axiom, sorry.
-/
import Derived.Test.YtiljgimcipdadaaGreatDoorRows
import GoSem.ClaimSeven
namespace Go.Proofs.YtiljgimcipdadaaGreatDoor
namespace Rows

/-- THE TIED CARD OF 'scutagelaw26.GroupFresh'. -/
def groupFreshCard : Claim7 := { stood := { row := groupFreshRow, standIns := [], harness := (true, "780dea7eeeff2b4e63d437caeeb1adf1083541162beb80c8f08bd54b6e72fd0d"), looks := false }, kinds := [], alts := [], laidByText := true, laidKinds := [.data, .pinned], laidTests := true, laidLooks := .later }
def GroupFreshCardSaid : Prop := Claim7.holds Tryz.pinned (.plain (OpenSpec.ofChange groupFreshSpec)) groupFreshCard

/-- THE SECOND FORM's CARD OF 'scutagelaw26.GroupFresh'. -/
def groupFreshUptoCard : Claim7 := { stood := { row := groupFreshUptoRow, standIns := [], harness := (true, "780dea7eeeff2b4e63d437caeeb1adf1083541162beb80c8f08bd54b6e72fd0d"), looks := false }, kinds := [], alts := [], laidByText := true, laidKinds := [.data, .pinned], laidTests := true, laidLooks := .later }
def GroupFreshUptoCardSaid : Prop := Claim7.holds Tryz.pinned (.plain (OpenSpec.upto groupFreshSpec)) groupFreshUptoCard
end Rows
end Go.Proofs.YtiljgimcipdadaaGreatDoor
