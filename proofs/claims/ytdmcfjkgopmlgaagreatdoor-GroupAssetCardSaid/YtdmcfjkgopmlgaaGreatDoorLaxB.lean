import Derived.Test.YtdmcfjkgopmlgaaGreatDoorQ11
import Derived.Test.YtdmcfjkgopmlgaaGreatDoorTie
import Derived.Test.YtdmcfjkgopmlgaaGreatDoorCards
import Derived.SevenTiedAt
import Derived.LaidMore
import Derived.Stop.Joined
import Derived.Lay
import Derived.WalkKit
import Derived.ProofKit
import Derived.OpenShut
import Derived.ShutString
import Derived.ChangeOld
import Derived.Below
import Derived.SizedLaws
import Derived.Test.YtdmcfjkgopmlgaaGreatDoorLaxA
import Derived.Test.YtdmcfjkgopmlgaaGreatDoorLaxC1
import Derived.Test.YtdmcfjkgopmlgaaGreatDoorLaxC2
import Derived.Test.YtdmcfjkgopmlgaaGreatDoorLaxC3
import Derived.Test.YtdmcfjkgopmlgaaGreatDoorLaxC4
namespace Go.Proofs.YtdmcfjkgopmlgaaGreatDoor.groupAsset
open Go Go.ChangeShapes Go.WideShapes Go.ChangeAt Go.RowKit Go.Proofs.YtdmcfjkgopmlgaaGreatDoor.Ev
open Go.ChangeMaps (open_string shut_string)
set_option linter.unusedVariables false
set_option linter.unusedSimpArgs false
theorem closed : joinedFacts Tryz.prog 3 Tryz.f3 Rows.groupAssetSpec Rows.groupAssetRow = true := by
  unfold joinedFacts
  rw [j1, j2, j3, j4]
  kernel_rfl
theorem over : Rows.groupAssetRow.holds Tryz.pinned (OpenSpec.ofChange Rows.groupAssetSpec) :=
  OpenClaim.holds_of_wide 3 Tryz.f3 rfl rfl rfl rfl rfl rfl rfl ⟨rfl, rfl, rfl, rfl, rfl⟩ rfl rfl rfl rfl rfl (by kernel_rfl) Tryz.func3 closed
    (of_decide_eq_true (by kernel_rfl)) (by unfold Func.isWrapper; first | (rw [if_pos (by decide +kernel)]; kernel_rfl) | (rw [if_neg (by decide +kernel)]; exact ⟨rfl, rfl⟩))
    (fun os started H enc _ => lifted os started H enc)
theorem proved : Rows.GroupAssetSaid := over
end Go.Proofs.YtdmcfjkgopmlgaaGreatDoor.groupAsset
