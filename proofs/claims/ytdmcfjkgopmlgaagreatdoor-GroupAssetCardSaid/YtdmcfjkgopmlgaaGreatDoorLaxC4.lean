import Derived.Test.YtdmcfjkgopmlgaaGreatDoorRows
import Derived.KernelRfl
namespace Go.Proofs.YtdmcfjkgopmlgaaGreatDoor.groupAsset
open Go
theorem j4 : (Rows.groupAssetRow.named == Tryz.prog.varsNamed 3) = true := by kernel_rfl
end Go.Proofs.YtdmcfjkgopmlgaaGreatDoor.groupAsset
