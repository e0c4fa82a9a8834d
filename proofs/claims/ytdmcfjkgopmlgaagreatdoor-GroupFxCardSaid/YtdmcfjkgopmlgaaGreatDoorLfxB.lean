import Derived.Test.YtdmcfjkgopmlgaaGreatDoorR11
import Derived.Test.YtdmcfjkgopmlgaaGreatDoorTie
import Derived.Test.YtdmcfjkgopmlgaaGreatDoorCards
import Derived.SevenTiedAt
import Derived.LaidMore
import Derived.Stop.Joined
import Derived.Lay
import Derived.WalkKit
import Derived.ProofKit
import Derived.OpenShut
import Derived.ShutString
import Derived.ChangeOld
import Derived.Below
import Derived.SizedLaws
import Derived.Test.YtdmcfjkgopmlgaaGreatDoorLfxA
import Derived.Test.YtdmcfjkgopmlgaaGreatDoorLfxC1
import Derived.Test.YtdmcfjkgopmlgaaGreatDoorLfxC2
import Derived.Test.YtdmcfjkgopmlgaaGreatDoorLfxC3
import Derived.Test.YtdmcfjkgopmlgaaGreatDoorLfxC4
namespace Go.Proofs.YtdmcfjkgopmlgaaGreatDoor.groupFx
open Go Go.ChangeShapes Go.WideShapes Go.ChangeAt Go.RowKit Go.Proofs.YtdmcfjkgopmlgaaGreatDoor.Ev
open Go.ChangeMaps (open_string shut_string)
set_option linter.unusedVariables false
set_option linter.unusedSimpArgs false
theorem closed : joinedFacts Tryz.prog 4 Tryz.f4 Rows.groupFxSpec Rows.groupFxRow = true := by
  unfold joinedFacts
  rw [j1, j2, j3, j4]
  kernel_rfl
theorem over : Rows.groupFxRow.holds Tryz.pinned (OpenSpec.ofChange Rows.groupFxSpec) :=
  OpenClaim.holds_of_wide 4 Tryz.f4 rfl rfl rfl rfl rfl rfl rfl ⟨rfl, rfl, rfl, rfl, rfl⟩ rfl rfl rfl rfl rfl (by kernel_rfl) Tryz.func4 closed
    (of_decide_eq_true (by kernel_rfl)) (by unfold Func.isWrapper; first | (rw [if_pos (by decide +kernel)]; kernel_rfl) | (rw [if_neg (by decide +kernel)]; exact ⟨rfl, rfl⟩))
    (fun os started H enc _ => lifted os started H enc)
theorem proved : Rows.GroupFxSaid := over
end Go.Proofs.YtdmcfjkgopmlgaaGreatDoor.groupFx
