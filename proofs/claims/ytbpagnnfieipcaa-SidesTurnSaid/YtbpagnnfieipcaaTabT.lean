/- The table's functions are the program's. -/
import Derived.Test.YtbpagnnfieipcaaRows
import Derived.Test.YtbpagnnfieipcaaCodeT
import Derived.KernelRfl
namespace Go.Proofs.Ytbpagnnfieipcaa.Ev.CT
open Go
theorem mixed : Try.prog.follows .mixedOrders = true := by kernel_rfl
theorem t11 : compF Try.prog 11 h11 = some e11 := by kernel_rfl
theorem t12 : compF Try.prog 12 h12 = some e12 := by kernel_rfl
theorem t13 : compF Try.prog 13 h13 = some e13 := by kernel_rfl
theorem t14 : compF Try.prog 14 h14 = some e14 := by kernel_rfl
theorem t15 : compF Try.prog 15 h15 = some e15 := by kernel_rfl
theorem t19 : compF Try.prog 19 h19 = some e19 := by kernel_rfl
theorem t25 : compF Try.prog 25 h25 = some e25 := by kernel_rfl
theorem t26 : compF Try.prog 26 h26 = some e26 := by kernel_rfl
theorem t27 : compF Try.prog 27 h27 = some e27 := by kernel_rfl
theorem t28 : compF Try.prog 28 h28 = some e28 := by kernel_rfl
theorem t29 : compF Try.prog 29 h29 = some e29 := by kernel_rfl
theorem t30 : compF Try.prog 30 h30 = some e30 := by kernel_rfl
theorem t31 : compF Try.prog 31 h31 = some e31 := by kernel_rfl
theorem t32 : compF Try.prog 32 h32 = some e32 := by kernel_rfl
theorem table : ∀ f e, C f = some e → ∃ hs, compF Try.prog f hs = some e := by
  intro f e h
  unfold C at h
  split at h
  · cases h; exact ⟨_, t11⟩
  · cases h; exact ⟨_, t12⟩
  · cases h; exact ⟨_, t13⟩
  · cases h; exact ⟨_, t14⟩
  · cases h; exact ⟨_, t15⟩
  · cases h; exact ⟨_, t19⟩
  · cases h; exact ⟨_, t25⟩
  · cases h; exact ⟨_, t26⟩
  · cases h; exact ⟨_, t27⟩
  · cases h; exact ⟨_, t28⟩
  · cases h; exact ⟨_, t29⟩
  · cases h; exact ⟨_, t30⟩
  · cases h; exact ⟨_, t31⟩
  · cases h; exact ⟨_, t32⟩
  · cases h
end Go.Proofs.Ytbpagnnfieipcaa.Ev.CT
