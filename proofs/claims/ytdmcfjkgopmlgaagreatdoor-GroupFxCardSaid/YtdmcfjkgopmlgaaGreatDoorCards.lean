/-
  DERIVED. GIVEN WITH THE SEED: THE CARDS: each row of YtdmcfjkgopmlgaaGreatDoorRows.lean that lists a variable, with what it lists TIED to the program's text (the seventh form; the later family's looks); each row that meets fmt, with fmt's text TOLD by the authors' own Lean function (tested against real Go, not proved from fmt's source: count such statements apart). THE CARD IS WHAT COUNTS. Prove the row's statement (the work); the ties are given (YtdmcfjkgopmlgaaGreatDoorTie.lean); close each card by the builder's one call (the guide's Derived/Test/ToyasCard.lean, 'card_holds'). Laid BY PROGRAM, IN A SANDBOX (cutbox-door.mjs). By AI agents, Wed Nov 11 2026. No macro, syntax, notation, axiom, sorry.
-/
import Derived.Test.YtdmcfjkgopmlgaaGreatDoorRows
import GoSem.ClaimSeven
namespace Go.Proofs.YtdmcfjkgopmlgaaGreatDoor
namespace Rows

/-- THE TIED CARD OF 'scutagelaw26.GroupAsset'. -/
def groupAssetCard : Claim7 := { stood := { row := groupAssetRow, standIns := [], harness := (true, "9fec787cbac985652e402caeecfb2e2ec8c03430bb3116f36c1f53dbea392bbd"), looks := false }, kinds := [], alts := [], laidByText := true, laidKinds := [.data, .pinned], laidTests := true, laidLooks := .later }
def GroupAssetCardSaid : Prop := Claim7.holds Tryz.pinned (.plain (OpenSpec.ofChange groupAssetSpec)) groupAssetCard

/-- THE TIED CARD OF 'scutagelaw26.GroupFx'. -/
def groupFxCard : Claim7 := { stood := { row := groupFxRow, standIns := [], harness := (true, "9fec787cbac985652e402caeecfb2e2ec8c03430bb3116f36c1f53dbea392bbd"), looks := false }, kinds := [], alts := [], laidByText := true, laidKinds := [.data, .pinned], laidTests := true, laidLooks := .later }
def GroupFxCardSaid : Prop := Claim7.holds Tryz.pinned (.plain (OpenSpec.ofChange groupFxSpec)) groupFxCard

/-- THE TIED CARD OF 'scutagelaw26.GroupCopies'. -/
def groupCopiesCard : Claim7 := { stood := { row := groupCopiesRow, standIns := [], harness := (true, "9fec787cbac985652e402caeecfb2e2ec8c03430bb3116f36c1f53dbea392bbd"), looks := false }, kinds := [], alts := [], laidByText := true, laidKinds := [.data, .pinned], laidTests := true, laidLooks := .later }
def GroupCopiesCardSaid : Prop := Claim7.holds Tryz.pinned (.plain (OpenSpec.ofChange groupCopiesSpec)) groupCopiesCard

/-- THE TIED CARD OF 'scutagelaw26.GroupErrors'. -/
def groupErrorsCard : Claim7 := { stood := { row := groupErrorsRow, standIns := [], harness := (true, "9fec787cbac985652e402caeecfb2e2ec8c03430bb3116f36c1f53dbea392bbd"), looks := false }, kinds := [], alts := [], laidByText := true, laidKinds := [.data, .pinned], laidTests := true, laidLooks := .later }
def GroupErrorsCardSaid : Prop := Claim7.holds Tryz.pinned (.plain (OpenSpec.ofChange groupErrorsSpec)) groupErrorsCard

/-- THE SECOND FORM's CARD OF 'scutagelaw26.GroupAsset'. -/
def groupAssetUptoCard : Claim7 := { stood := { row := groupAssetUptoRow, standIns := [], harness := (true, "9fec787cbac985652e402caeecfb2e2ec8c03430bb3116f36c1f53dbea392bbd"), looks := false }, kinds := [], alts := [], laidByText := true, laidKinds := [.data, .pinned], laidTests := true, laidLooks := .later }
def GroupAssetUptoCardSaid : Prop := Claim7.holds Tryz.pinned (.plain (OpenSpec.upto groupAssetSpec)) groupAssetUptoCard

/-- THE SECOND FORM's CARD OF 'scutagelaw26.GroupFx'. -/
def groupFxUptoCard : Claim7 := { stood := { row := groupFxUptoRow, standIns := [], harness := (true, "9fec787cbac985652e402caeecfb2e2ec8c03430bb3116f36c1f53dbea392bbd"), looks := false }, kinds := [], alts := [], laidByText := true, laidKinds := [.data, .pinned], laidTests := true, laidLooks := .later }
def GroupFxUptoCardSaid : Prop := Claim7.holds Tryz.pinned (.plain (OpenSpec.upto groupFxSpec)) groupFxUptoCard

/-- THE SECOND FORM's CARD OF 'scutagelaw26.GroupCopies'. -/
def groupCopiesUptoCard : Claim7 := { stood := { row := groupCopiesUptoRow, standIns := [], harness := (true, "9fec787cbac985652e402caeecfb2e2ec8c03430bb3116f36c1f53dbea392bbd"), looks := false }, kinds := [], alts := [], laidByText := true, laidKinds := [.data, .pinned], laidTests := true, laidLooks := .later }
def GroupCopiesUptoCardSaid : Prop := Claim7.holds Tryz.pinned (.plain (OpenSpec.upto groupCopiesSpec)) groupCopiesUptoCard

/-- THE SECOND FORM's CARD OF 'scutagelaw26.GroupErrors'. -/
def groupErrorsUptoCard : Claim7 := { stood := { row := groupErrorsUptoRow, standIns := [], harness := (true, "9fec787cbac985652e402caeecfb2e2ec8c03430bb3116f36c1f53dbea392bbd"), looks := false }, kinds := [], alts := [], laidByText := true, laidKinds := [.data, .pinned], laidTests := true, laidLooks := .later }
def GroupErrorsUptoCardSaid : Prop := Claim7.holds Tryz.pinned (.plain (OpenSpec.upto groupErrorsSpec)) groupErrorsUptoCard
end Rows
end Go.Proofs.YtdmcfjkgopmlgaaGreatDoor
