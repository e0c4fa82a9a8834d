/-
  DERIVED. GIVEN WITH THE SEED: THE CARDS: each row of YtbgfcgmbihhlbaaDoorRows.lean that lists a variable, with what it lists TIED to the program's text (the seventh form; the later family's looks); each row that meets fmt, with fmt's text TOLD by the authors' own Lean function (tested against real Go, not proved from fmt's source: count such statements apart). THE CARD IS WHAT COUNTS. Prove the row's statement (the work); the ties are given (YtbgfcgmbihhlbaaDoorTie.lean); close each card by the builder's one call (the guide's Derived/Test/ToyasCard.lean, 'card_holds'). Laid BY PROGRAM, IN A SANDBOX (cutbox-door.mjs). By AI agents, Wed Nov 11 2026. No macro, syntax, notation, axiom, sorry.
-/
import Derived.Test.YtbgfcgmbihhlbaaDoorRows
import GoSem.ClaimSeven
namespace Go.Proofs.YtbgfcgmbihhlbaaDoor
namespace Rows

/-- THE TIED CARD OF 'scutagelaw27.WireForms'. -/
def wireFormsCard : Claim7 := { stood := { row := wireFormsRow, standIns := [], harness := (true, "8ad5552aa7f1bbfca38b6966cec6ed8b9645e2f234b950e2bf953db9bcf2331b"), looks := false }, kinds := [], alts := [], laidByText := true, laidKinds := [.data, .pinned], laidTests := true, laidLooks := .later }
def WireFormsCardSaid : Prop := Claim7.holds Tryd.pinned (.plain (OpenSpec.ofChange wireFormsSpec)) wireFormsCard

/-- THE TIED CARD OF 'scutagelaw27.WirePacks'. -/
def wirePacksCard : Claim7 := { stood := { row := wirePacksRow, standIns := [], harness := (true, "8ad5552aa7f1bbfca38b6966cec6ed8b9645e2f234b950e2bf953db9bcf2331b"), looks := false }, kinds := [], alts := [], laidByText := true, laidKinds := [.data, .pinned], laidTests := true, laidLooks := .later }
def WirePacksCardSaid : Prop := Claim7.holds Tryd.pinned (.plain (OpenSpec.ofChange wirePacksSpec)) wirePacksCard

/-- THE TIED CARD OF 'scutagelaw27.WireUnpacks'. -/
def wireUnpacksCard : Claim7 := { stood := { row := wireUnpacksRow, standIns := [], harness := (true, "8ad5552aa7f1bbfca38b6966cec6ed8b9645e2f234b950e2bf953db9bcf2331b"), looks := false }, kinds := [], alts := [], laidByText := true, laidKinds := [.data, .pinned], laidTests := true, laidLooks := .later }
def WireUnpacksCardSaid : Prop := Claim7.holds Tryd.pinned (.plain (OpenSpec.ofChange wireUnpacksSpec)) wireUnpacksCard

/-- THE TIED CARD OF 'scutagelaw27.WireBack'. -/
def wireBackCard : Claim7 := { stood := { row := wireBackRow, standIns := [], harness := (true, "8ad5552aa7f1bbfca38b6966cec6ed8b9645e2f234b950e2bf953db9bcf2331b"), looks := false }, kinds := [], alts := [], laidByText := true, laidKinds := [.data, .pinned], laidTests := true, laidLooks := .later }
def WireBackCardSaid : Prop := Claim7.holds Tryd.pinned (.plain (OpenSpec.ofChange wireBackSpec)) wireBackCard

/-- THE TIED CARD OF 'scutagelaw27.WireJoins'. -/
def wireJoinsCard : Claim7 := { stood := { row := wireJoinsRow, standIns := [], harness := (true, "8ad5552aa7f1bbfca38b6966cec6ed8b9645e2f234b950e2bf953db9bcf2331b"), looks := false }, kinds := [], alts := [], laidByText := true, laidKinds := [.data, .pinned], laidTests := true, laidLooks := .later }
def WireJoinsCardSaid : Prop := Claim7.holds Tryd.pinned (.plain (OpenSpec.ofChange wireJoinsSpec)) wireJoinsCard

/-- THE SECOND FORM's CARD OF 'scutagelaw27.WireForms'. -/
def wireFormsUptoCard : Claim7 := { stood := { row := wireFormsUptoRow, standIns := [], harness := (true, "8ad5552aa7f1bbfca38b6966cec6ed8b9645e2f234b950e2bf953db9bcf2331b"), looks := false }, kinds := [], alts := [], laidByText := true, laidKinds := [.data, .pinned], laidTests := true, laidLooks := .later }
def WireFormsUptoCardSaid : Prop := Claim7.holds Tryd.pinned (.plain (OpenSpec.upto wireFormsSpec)) wireFormsUptoCard

/-- THE SECOND FORM's CARD OF 'scutagelaw27.WirePacks'. -/
def wirePacksUptoCard : Claim7 := { stood := { row := wirePacksUptoRow, standIns := [], harness := (true, "8ad5552aa7f1bbfca38b6966cec6ed8b9645e2f234b950e2bf953db9bcf2331b"), looks := false }, kinds := [], alts := [], laidByText := true, laidKinds := [.data, .pinned], laidTests := true, laidLooks := .later }
def WirePacksUptoCardSaid : Prop := Claim7.holds Tryd.pinned (.plain (OpenSpec.upto wirePacksSpec)) wirePacksUptoCard

/-- THE SECOND FORM's CARD OF 'scutagelaw27.WireUnpacks'. -/
def wireUnpacksUptoCard : Claim7 := { stood := { row := wireUnpacksUptoRow, standIns := [], harness := (true, "8ad5552aa7f1bbfca38b6966cec6ed8b9645e2f234b950e2bf953db9bcf2331b"), looks := false }, kinds := [], alts := [], laidByText := true, laidKinds := [.data, .pinned], laidTests := true, laidLooks := .later }
def WireUnpacksUptoCardSaid : Prop := Claim7.holds Tryd.pinned (.plain (OpenSpec.upto wireUnpacksSpec)) wireUnpacksUptoCard

/-- THE SECOND FORM's CARD OF 'scutagelaw27.WireBack'. -/
def wireBackUptoCard : Claim7 := { stood := { row := wireBackUptoRow, standIns := [], harness := (true, "8ad5552aa7f1bbfca38b6966cec6ed8b9645e2f234b950e2bf953db9bcf2331b"), looks := false }, kinds := [], alts := [], laidByText := true, laidKinds := [.data, .pinned], laidTests := true, laidLooks := .later }
def WireBackUptoCardSaid : Prop := Claim7.holds Tryd.pinned (.plain (OpenSpec.upto wireBackSpec)) wireBackUptoCard

/-- THE SECOND FORM's CARD OF 'scutagelaw27.WireJoins'. -/
def wireJoinsUptoCard : Claim7 := { stood := { row := wireJoinsUptoRow, standIns := [], harness := (true, "8ad5552aa7f1bbfca38b6966cec6ed8b9645e2f234b950e2bf953db9bcf2331b"), looks := false }, kinds := [], alts := [], laidByText := true, laidKinds := [.data, .pinned], laidTests := true, laidLooks := .later }
def WireJoinsUptoCardSaid : Prop := Claim7.holds Tryd.pinned (.plain (OpenSpec.upto wireJoinsSpec)) wireJoinsUptoCard
end Rows
end Go.Proofs.YtbgfcgmbihhlbaaDoor
