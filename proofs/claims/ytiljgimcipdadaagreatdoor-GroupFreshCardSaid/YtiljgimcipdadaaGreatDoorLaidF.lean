/- What the row's condition lists, and a world that meets it. -/
import Derived.Test.YtiljgimcipdadaaGreatDoorTabF
import Derived.Test.YtiljgimcipdadaaGreatDoorRows
import Derived.Lay
import Derived.LaidMore
import Derived.Stop.Joined
namespace Go.Proofs.YtiljgimcipdadaaGreatDoor.Ev.CF
open Go Go.RowKit
set_option linter.unusedVariables false
def laidL : List (String × DataW Unit) := [("unicode/utf8.acceptRanges", Rows.laid_unicode_utf8_acceptRanges), ("unicode/utf8.first", Rows.laid_unicode_utf8_first)]
theorem good_of {W : World} (h : laidMetH Tryz.prog laidL W) : Gd (W0 W) := trivial
theorem door_met (os : Os) (args : Array Value) : laidMetH Tryz.prog laidL ((World.laidAll Tryz.prog os laidL).forCall (fun _ _ => 0) ⟨#[], args, []⟩).memory := by
  rw [MakeChecks.laidMetH_plain _ _ _ (by kernel_rfl)]
  exact laidMet_laidAll _ (by kernel_rfl) (by kernel_rfl)
end Go.Proofs.YtiljgimcipdadaaGreatDoor.Ev.CF
