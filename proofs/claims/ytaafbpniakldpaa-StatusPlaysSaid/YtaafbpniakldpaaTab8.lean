/- The table's functions are the program's. -/
import Derived.Test.YtaafbpniakldpaaRows
import Derived.Test.YtaafbpniakldpaaCode8
import Derived.KernelRfl
namespace Go.Proofs.Ytaafbpniakldpaa.Ev.C8
open Go
theorem mixed : Try.prog.follows .mixedOrders = true := by kernel_rfl
theorem t3 : compF Try.prog 3 h3 = some e3 := by kernel_rfl
theorem t4 : compF Try.prog 4 h4 = some e4 := by kernel_rfl
theorem t5 : compF Try.prog 5 h5 = some e5 := by kernel_rfl
theorem t6 : compF Try.prog 6 h6 = some e6 := by kernel_rfl
theorem t12 : compF Try.prog 12 h12 = some e12 := by kernel_rfl
theorem t13 : compF Try.prog 13 h13 = some e13 := by kernel_rfl
theorem t14 : compF Try.prog 14 h14 = some e14 := by kernel_rfl
theorem t15 : compF Try.prog 15 h15 = some e15 := by kernel_rfl
theorem t16 : compF Try.prog 16 h16 = some e16 := by kernel_rfl
theorem t17 : compF Try.prog 17 h17 = some e17 := by kernel_rfl
theorem t18 : compF Try.prog 18 h18 = some e18 := by kernel_rfl
theorem t19 : compF Try.prog 19 h19 = some e19 := by kernel_rfl
theorem t20 : compF Try.prog 20 h20 = some e20 := by kernel_rfl
theorem t21 : compF Try.prog 21 h21 = some e21 := by kernel_rfl
theorem t22 : compF Try.prog 22 h22 = some e22 := by kernel_rfl
theorem t23 : compF Try.prog 23 h23 = some e23 := by kernel_rfl
theorem t24 : compF Try.prog 24 h24 = some e24 := by kernel_rfl
theorem t25 : compF Try.prog 25 h25 = some e25 := by kernel_rfl
theorem t26 : compF Try.prog 26 h26 = some e26 := by kernel_rfl
theorem t27 : compF Try.prog 27 h27 = some e27 := by kernel_rfl
theorem t28 : compF Try.prog 28 h28 = some e28 := by kernel_rfl
theorem t38 : compF Try.prog 38 h38 = some e38 := by kernel_rfl
theorem t39 : compF Try.prog 39 h39 = some e39 := by kernel_rfl
theorem t40 : compF Try.prog 40 h40 = some e40 := by kernel_rfl
theorem t46 : compF Try.prog 46 h46 = some e46 := by kernel_rfl
theorem table : ∀ f e, C f = some e → ∃ hs, compF Try.prog f hs = some e := by
  intro f e h
  unfold C at h
  split at h
  · cases h; exact ⟨_, t3⟩
  · cases h; exact ⟨_, t4⟩
  · cases h; exact ⟨_, t5⟩
  · cases h; exact ⟨_, t6⟩
  · cases h; exact ⟨_, t12⟩
  · cases h; exact ⟨_, t13⟩
  · cases h; exact ⟨_, t14⟩
  · cases h; exact ⟨_, t15⟩
  · cases h; exact ⟨_, t16⟩
  · cases h; exact ⟨_, t17⟩
  · cases h; exact ⟨_, t18⟩
  · cases h; exact ⟨_, t19⟩
  · cases h; exact ⟨_, t20⟩
  · cases h; exact ⟨_, t21⟩
  · cases h; exact ⟨_, t22⟩
  · cases h; exact ⟨_, t23⟩
  · cases h; exact ⟨_, t24⟩
  · cases h; exact ⟨_, t25⟩
  · cases h; exact ⟨_, t26⟩
  · cases h; exact ⟨_, t27⟩
  · cases h; exact ⟨_, t28⟩
  · cases h; exact ⟨_, t38⟩
  · cases h; exact ⟨_, t39⟩
  · cases h; exact ⟨_, t40⟩
  · cases h; exact ⟨_, t46⟩
  · cases h
end Go.Proofs.Ytaafbpniakldpaa.Ev.C8
