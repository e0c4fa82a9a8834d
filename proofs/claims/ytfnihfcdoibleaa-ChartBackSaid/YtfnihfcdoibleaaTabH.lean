/- The table's functions are the program's. -/
import Derived.Test.YtfnihfcdoibleaaRows
import Derived.Test.YtfnihfcdoibleaaCodeH
import Derived.KernelRfl
namespace Go.Proofs.Ytfnihfcdoibleaa.Ev.CH
open Go
theorem mixed : Try.prog.follows .mixedOrders = true := by kernel_rfl
theorem t13 : compF Try.prog 13 h13 = some e13 := by kernel_rfl
theorem t14 : compF Try.prog 14 h14 = some e14 := by kernel_rfl
theorem t16 : compF Try.prog 16 h16 = some e16 := by kernel_rfl
theorem t19 : compF Try.prog 19 h19 = some e19 := by kernel_rfl
theorem t20 : compF Try.prog 20 h20 = some e20 := by kernel_rfl
theorem t43 : compF Try.prog 43 h43 = some e43 := by kernel_rfl
theorem t44 : compF Try.prog 44 h44 = some e44 := by kernel_rfl
theorem t45 : compF Try.prog 45 h45 = some e45 := by kernel_rfl
theorem t46 : compF Try.prog 46 h46 = some e46 := by kernel_rfl
theorem t47 : compF Try.prog 47 h47 = some e47 := by kernel_rfl
theorem t48 : compF Try.prog 48 h48 = some e48 := by kernel_rfl
theorem t49 : compF Try.prog 49 h49 = some e49 := by kernel_rfl
theorem t50 : compF Try.prog 50 h50 = some e50 := by kernel_rfl
theorem t51 : compF Try.prog 51 h51 = some e51 := by kernel_rfl
theorem t70 : compF Try.prog 70 h70 = some e70 := by kernel_rfl
theorem t71 : compF Try.prog 71 h71 = some e71 := by kernel_rfl
theorem t72 : compF Try.prog 72 h72 = some e72 := by kernel_rfl
theorem table : ∀ f e, C f = some e → ∃ hs, compF Try.prog f hs = some e := by
  intro f e h
  unfold C at h
  split at h
  · cases h; exact ⟨_, t13⟩
  · cases h; exact ⟨_, t14⟩
  · cases h; exact ⟨_, t16⟩
  · cases h; exact ⟨_, t19⟩
  · cases h; exact ⟨_, t20⟩
  · cases h; exact ⟨_, t43⟩
  · cases h; exact ⟨_, t44⟩
  · cases h; exact ⟨_, t45⟩
  · cases h; exact ⟨_, t46⟩
  · cases h; exact ⟨_, t47⟩
  · cases h; exact ⟨_, t48⟩
  · cases h; exact ⟨_, t49⟩
  · cases h; exact ⟨_, t50⟩
  · cases h; exact ⟨_, t51⟩
  · cases h; exact ⟨_, t70⟩
  · cases h; exact ⟨_, t71⟩
  · cases h; exact ⟨_, t72⟩
  · cases h
end Go.Proofs.Ytfnihfcdoibleaa.Ev.CH
