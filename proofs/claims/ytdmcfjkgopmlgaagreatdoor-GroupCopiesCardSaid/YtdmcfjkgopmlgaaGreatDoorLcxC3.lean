import Derived.Test.YtdmcfjkgopmlgaaGreatDoorRows
import Derived.KernelRfl
namespace Go.Proofs.YtdmcfjkgopmlgaaGreatDoor.groupCopies
open Go
theorem j3 : (Rows.groupCopiesRow.recurses == Tryz.prog.recurses 5) = true := by kernel_rfl
end Go.Proofs.YtdmcfjkgopmlgaaGreatDoor.groupCopies
