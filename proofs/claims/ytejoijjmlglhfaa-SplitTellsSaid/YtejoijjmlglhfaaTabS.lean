/- The table's functions are the program's. -/
import Derived.Test.YtejoijjmlglhfaaRows
import Derived.Test.YtejoijjmlglhfaaCodeS
import Derived.KernelRfl
namespace Go.Proofs.Ytejoijjmlglhfaa.Ev.CS
open Go
theorem mixed : Try.prog.follows .mixedOrders = true := by kernel_rfl
theorem t3 : compF Try.prog 3 h3 = some e3 := by kernel_rfl
theorem t4 : compF Try.prog 4 h4 = some e4 := by kernel_rfl
theorem t5 : compF Try.prog 5 h5 = some e5 := by kernel_rfl
theorem t6 : compF Try.prog 6 h6 = some e6 := by kernel_rfl
theorem t7 : compF Try.prog 7 h7 = some e7 := by kernel_rfl
theorem t8 : compF Try.prog 8 h8 = some e8 := by kernel_rfl
theorem t9 : compF Try.prog 9 h9 = some e9 := by kernel_rfl
theorem t10 : compF Try.prog 10 h10 = some e10 := by kernel_rfl
theorem t11 : compF Try.prog 11 h11 = some e11 := by kernel_rfl
theorem t12 : compF Try.prog 12 h12 = some e12 := by kernel_rfl
theorem t13 : compF Try.prog 13 h13 = some e13 := by kernel_rfl
theorem t14 : compF Try.prog 14 h14 = some e14 := by kernel_rfl
theorem t15 : compF Try.prog 15 h15 = some e15 := by kernel_rfl
theorem t16 : compF Try.prog 16 h16 = some e16 := by kernel_rfl
theorem t17 : compF Try.prog 17 h17 = some e17 := by kernel_rfl
theorem t18 : compF Try.prog 18 h18 = some e18 := by kernel_rfl
theorem t19 : compF Try.prog 19 h19 = some e19 := by kernel_rfl
theorem t20 : compF Try.prog 20 h20 = some e20 := by kernel_rfl
theorem t21 : compF Try.prog 21 h21 = some e21 := by kernel_rfl
theorem table : ∀ f e, C f = some e → ∃ hs, compF Try.prog f hs = some e := by
  intro f e h
  unfold C at h
  split at h
  · cases h; exact ⟨_, t3⟩
  · cases h; exact ⟨_, t4⟩
  · cases h; exact ⟨_, t5⟩
  · cases h; exact ⟨_, t6⟩
  · cases h; exact ⟨_, t7⟩
  · cases h; exact ⟨_, t8⟩
  · cases h; exact ⟨_, t9⟩
  · cases h; exact ⟨_, t10⟩
  · cases h; exact ⟨_, t11⟩
  · cases h; exact ⟨_, t12⟩
  · cases h; exact ⟨_, t13⟩
  · cases h; exact ⟨_, t14⟩
  · cases h; exact ⟨_, t15⟩
  · cases h; exact ⟨_, t16⟩
  · cases h; exact ⟨_, t17⟩
  · cases h; exact ⟨_, t18⟩
  · cases h; exact ⟨_, t19⟩
  · cases h; exact ⟨_, t20⟩
  · cases h; exact ⟨_, t21⟩
  · cases h
end Go.Proofs.Ytejoijjmlglhfaa.Ev.CS
