/- The table's functions are the program's. -/
import Derived.Test.YtalelfjjigfpeaaRows
import Derived.Test.YtalelfjjigfpeaaCodeQ
import Derived.KernelRfl
namespace Go.Proofs.Ytalelfjjigfpeaa.Ev.CQ
open Go
theorem mixed : Try.prog.follows .mixedOrders = true := by kernel_rfl
theorem t7 : compF Try.prog 7 h7 = some e7 := by kernel_rfl
theorem t8 : compF Try.prog 8 h8 = some e8 := by kernel_rfl
theorem t9 : compF Try.prog 9 h9 = some e9 := by kernel_rfl
theorem t13 : compF Try.prog 13 h13 = some e13 := by kernel_rfl
theorem t14 : compF Try.prog 14 h14 = some e14 := by kernel_rfl
theorem t15 : compF Try.prog 15 h15 = some e15 := by kernel_rfl
theorem t16 : compF Try.prog 16 h16 = some e16 := by kernel_rfl
theorem t17 : compF Try.prog 17 h17 = some e17 := by kernel_rfl
theorem t18 : compF Try.prog 18 h18 = some e18 := by kernel_rfl
theorem t19 : compF Try.prog 19 h19 = some e19 := by kernel_rfl
theorem t20 : compF Try.prog 20 h20 = some e20 := by kernel_rfl
theorem t21 : compF Try.prog 21 h21 = some e21 := by kernel_rfl
theorem t22 : compF Try.prog 22 h22 = some e22 := by kernel_rfl
theorem t23 : compF Try.prog 23 h23 = some e23 := by kernel_rfl
theorem t24 : compF Try.prog 24 h24 = some e24 := by kernel_rfl
theorem t25 : compF Try.prog 25 h25 = some e25 := by kernel_rfl
theorem t26 : compF Try.prog 26 h26 = some e26 := by kernel_rfl
theorem t27 : compF Try.prog 27 h27 = some e27 := by kernel_rfl
theorem t28 : compF Try.prog 28 h28 = some e28 := by kernel_rfl
theorem t29 : compF Try.prog 29 h29 = some e29 := by kernel_rfl
theorem t35 : compF Try.prog 35 h35 = some e35 := by kernel_rfl
theorem table : ∀ f e, C f = some e → ∃ hs, compF Try.prog f hs = some e := by
  intro f e h
  unfold C at h
  split at h
  · cases h; exact ⟨_, t7⟩
  · cases h; exact ⟨_, t8⟩
  · cases h; exact ⟨_, t9⟩
  · cases h; exact ⟨_, t13⟩
  · cases h; exact ⟨_, t14⟩
  · cases h; exact ⟨_, t15⟩
  · cases h; exact ⟨_, t16⟩
  · cases h; exact ⟨_, t17⟩
  · cases h; exact ⟨_, t18⟩
  · cases h; exact ⟨_, t19⟩
  · cases h; exact ⟨_, t20⟩
  · cases h; exact ⟨_, t21⟩
  · cases h; exact ⟨_, t22⟩
  · cases h; exact ⟨_, t23⟩
  · cases h; exact ⟨_, t24⟩
  · cases h; exact ⟨_, t25⟩
  · cases h; exact ⟨_, t26⟩
  · cases h; exact ⟨_, t27⟩
  · cases h; exact ⟨_, t28⟩
  · cases h; exact ⟨_, t29⟩
  · cases h; exact ⟨_, t35⟩
  · cases h
end Go.Proofs.Ytalelfjjigfpeaa.Ev.CQ
