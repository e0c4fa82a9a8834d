import Derived.Test.YtdmcfjkgopmlgaaGreatDoorCards
import Derived.SevenTiedAt
import Derived.KernelRfl
namespace Go.Proofs.YtdmcfjkgopmlgaaGreatDoor.groupFx
open Go
theorem nog : Tryz.prog.funcs.any Func.goes = false := by kernel_rfl
theorem goesF (P : Program) (h : P.funcs.any Func.goes = false) (f : Nat) : P.goes f = false := by
  unfold Program.goes
  rw [h, Bool.and_false, Bool.or_false, List.any_eq_false]
  intro g _
  cases hg : P.funcs[g]? with
  | none => simp
  | some fn =>
    have := (Array.any_eq_false.1 h) g
    obtain ⟨hl, e⟩ := Array.getElem?_eq_some_iff.1 hg
    have h2 := this hl
    rw [e] at h2
    simpa using h2
theorem goesB (c : OpenClaim) (P : Program) (hs : c.start = .entering) (h : P.funcs.any Func.goes = false) : false = c.goesBy P := by
  unfold OpenClaim.goesBy Program.goesAt Program.goesFrom
  rw [hs]
  cases P.funcNamed c.func with
  | none => rfl
  | some f => rw [Option.any_some, goesF P h]; rfl
theorem j5 : false = Rows.groupFxRow.goesBy Tryz.prog := goesB _ _ rfl nog
theorem j6 : false = Tryz.prog.looks [] := by kernel_rfl
end Go.Proofs.YtdmcfjkgopmlgaaGreatDoor.groupFx
