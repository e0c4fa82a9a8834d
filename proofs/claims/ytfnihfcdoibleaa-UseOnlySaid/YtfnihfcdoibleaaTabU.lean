/- The table's functions are the program's. -/
import Derived.Test.YtfnihfcdoibleaaRows
import Derived.Test.YtfnihfcdoibleaaCodeU
import Derived.KernelRfl
namespace Go.Proofs.Ytfnihfcdoibleaa.Ev.CU
open Go
theorem mixed : Try.prog.follows .mixedOrders = true := by kernel_rfl
theorem t3 : compF Try.prog 3 h3 = some e3 := by kernel_rfl
theorem t5 : compF Try.prog 5 h5 = some e5 := by kernel_rfl
theorem t6 : compF Try.prog 6 h6 = some e6 := by kernel_rfl
theorem t7 : compF Try.prog 7 h7 = some e7 := by kernel_rfl
theorem t15 : compF Try.prog 15 h15 = some e15 := by kernel_rfl
theorem t16 : compF Try.prog 16 h16 = some e16 := by kernel_rfl
theorem t17 : compF Try.prog 17 h17 = some e17 := by kernel_rfl
theorem t18 : compF Try.prog 18 h18 = some e18 := by kernel_rfl
theorem t19 : compF Try.prog 19 h19 = some e19 := by kernel_rfl
theorem t20 : compF Try.prog 20 h20 = some e20 := by kernel_rfl
theorem t21 : compF Try.prog 21 h21 = some e21 := by kernel_rfl
theorem t22 : compF Try.prog 22 h22 = some e22 := by kernel_rfl
theorem t23 : compF Try.prog 23 h23 = some e23 := by kernel_rfl
theorem t24 : compF Try.prog 24 h24 = some e24 := by kernel_rfl
theorem t25 : compF Try.prog 25 h25 = some e25 := by kernel_rfl
theorem t26 : compF Try.prog 26 h26 = some e26 := by kernel_rfl
theorem t27 : compF Try.prog 27 h27 = some e27 := by kernel_rfl
theorem t52 : compF Try.prog 52 h52 = some e52 := by kernel_rfl
theorem t53 : compF Try.prog 53 h53 = some e53 := by kernel_rfl
theorem t54 : compF Try.prog 54 h54 = some e54 := by kernel_rfl
theorem t56 : compF Try.prog 56 h56 = some e56 := by kernel_rfl
theorem t57 : compF Try.prog 57 h57 = some e57 := by kernel_rfl
theorem t64 : compF Try.prog 64 h64 = some e64 := by kernel_rfl
theorem t65 : compF Try.prog 65 h65 = some e65 := by kernel_rfl
theorem t68 : compF Try.prog 68 h68 = some e68 := by kernel_rfl
theorem t73 : compF Try.prog 73 h73 = some e73 := by kernel_rfl
theorem table : ∀ f e, C f = some e → ∃ hs, compF Try.prog f hs = some e := by
  intro f e h
  unfold C at h
  split at h
  · cases h; exact ⟨_, t3⟩
  · cases h; exact ⟨_, t5⟩
  · cases h; exact ⟨_, t6⟩
  · cases h; exact ⟨_, t7⟩
  · cases h; exact ⟨_, t15⟩
  · cases h; exact ⟨_, t16⟩
  · cases h; exact ⟨_, t17⟩
  · cases h; exact ⟨_, t18⟩
  · cases h; exact ⟨_, t19⟩
  · cases h; exact ⟨_, t20⟩
  · cases h; exact ⟨_, t21⟩
  · cases h; exact ⟨_, t22⟩
  · cases h; exact ⟨_, t23⟩
  · cases h; exact ⟨_, t24⟩
  · cases h; exact ⟨_, t25⟩
  · cases h; exact ⟨_, t26⟩
  · cases h; exact ⟨_, t27⟩
  · cases h; exact ⟨_, t52⟩
  · cases h; exact ⟨_, t53⟩
  · cases h; exact ⟨_, t54⟩
  · cases h; exact ⟨_, t56⟩
  · cases h; exact ⟨_, t57⟩
  · cases h; exact ⟨_, t64⟩
  · cases h; exact ⟨_, t65⟩
  · cases h; exact ⟨_, t68⟩
  · cases h; exact ⟨_, t73⟩
  · cases h
end Go.Proofs.Ytfnihfcdoibleaa.Ev.CU
