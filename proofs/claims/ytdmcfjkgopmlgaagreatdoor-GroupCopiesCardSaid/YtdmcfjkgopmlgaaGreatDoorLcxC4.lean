import Derived.Test.YtdmcfjkgopmlgaaGreatDoorRows
import Derived.KernelRfl
namespace Go.Proofs.YtdmcfjkgopmlgaaGreatDoor.groupCopies
open Go
theorem j4 : (Rows.groupCopiesRow.named == Tryz.prog.varsNamed 5) = true := by kernel_rfl
end Go.Proofs.YtdmcfjkgopmlgaaGreatDoor.groupCopies
