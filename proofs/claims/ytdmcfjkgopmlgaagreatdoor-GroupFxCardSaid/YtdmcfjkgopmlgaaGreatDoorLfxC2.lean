import Derived.Test.YtdmcfjkgopmlgaaGreatDoorRows
import Derived.KernelRfl
namespace Go.Proofs.YtdmcfjkgopmlgaaGreatDoor.groupFx
open Go
theorem j2 : (Rows.groupFxRow.unfollowed == Tryz.prog.unfollowed 4) = true := by kernel_rfl
end Go.Proofs.YtdmcfjkgopmlgaaGreatDoor.groupFx
