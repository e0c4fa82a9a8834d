import Derived.Test.YtdmcfjkgopmlgaaGreatDoorRows
import Derived.KernelRfl
namespace Go.Proofs.YtdmcfjkgopmlgaaGreatDoor.groupErrors
open Go
theorem j4 : (Rows.groupErrorsRow.named == Tryz.prog.varsNamed 6) = true := by kernel_rfl
end Go.Proofs.YtdmcfjkgopmlgaaGreatDoor.groupErrors
