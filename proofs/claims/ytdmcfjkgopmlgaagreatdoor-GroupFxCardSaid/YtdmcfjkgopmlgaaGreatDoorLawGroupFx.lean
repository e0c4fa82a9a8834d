import Derived.Test.YtdmcfjkgopmlgaaGreatDoorR11
import Derived.Test.YtdmcfjkgopmlgaaGreatDoorTie
import Derived.Test.YtdmcfjkgopmlgaaGreatDoorCards
import Derived.SevenTiedAt
import Derived.LaidMore
import Derived.Stop.Joined
import Derived.Lay
import Derived.WalkKit
import Derived.ProofKit
import Derived.OpenShut
import Derived.ShutString
import Derived.ChangeOld
import Derived.Below
import Derived.SizedLaws
import Derived.Test.YtdmcfjkgopmlgaaGreatDoorLfxB
import Derived.Test.YtdmcfjkgopmlgaaGreatDoorLfxC5
namespace Go.Proofs.YtdmcfjkgopmlgaaGreatDoor.groupFx
open Go Go.ChangeShapes Go.WideShapes Go.ChangeAt Go.RowKit Go.Proofs.YtdmcfjkgopmlgaaGreatDoor.Ev
open Go.ChangeMaps (open_string shut_string)
set_option linter.unusedVariables false
set_option linter.unusedSimpArgs false
theorem card : Rows.GroupFxCardSaid :=
  Claim7.holds_tied_plain_at .later [] [.data, .pinned] true (true, "9fec787cbac985652e402caeecfb2e2ec8c03430bb3116f36c1f53dbea392bbd") false
    proved (fun _ h => by cases h) (by kernel_rfl) (fun _ h => by cases h) groupFx_row_tie rfl ⟨rfl, rfl⟩ (by kernel_rfl) rfl
    (fun f fn hf hfn => by
      obtain rfl : f = 4 := Option.some.inj ((show Tryz.prog.funcNamed "scutage/scutagelaw26.GroupFx" = some 4 by kernel_rfl).symm.trans hf) |>.symm
      obtain rfl : fn = Tryz.f4 := (Option.some.inj (Tryz.func4.symm.trans hfn)).symm
      exact ⟨j6, fun j t ht => by
        have hall : (Tryz.f4.params.toList.all fun t => !Tryz.prog.wantsStandIn t) = true := by kernel_rfl
        have hm : t ∈ Tryz.f4.params.toList := Array.mem_toList_iff.2 (Array.mem_of_getElem? ht)
        have hx : Tryz.prog.wantsStandIn t = false := by simpa using List.all_eq_true.1 hall t hm
        exact hx⟩)
    j5
#print axioms card
end Go.Proofs.YtdmcfjkgopmlgaaGreatDoor.groupFx
namespace Go.Proofs.YtdmcfjkgopmlgaaGreatDoor
/-- The tied card, under a short name, for the claim. -/
theorem groupFx_holds : Rows.GroupFxCardSaid := groupFx.card
end Go.Proofs.YtdmcfjkgopmlgaaGreatDoor
