/- The table's functions are the program's. -/
import Derived.Test.YtcimcccnhbbncaaRows
import Derived.Test.YtcimcccnhbbncaaCodeE
import Derived.KernelRfl
namespace Go.Proofs.Ytcimcccnhbbncaa.Ev.CE
open Go
theorem mixed : Try.prog.follows .mixedOrders = true := by kernel_rfl
theorem t3 : compF Try.prog 3 h3 = some e3 := by kernel_rfl
theorem t4 : compF Try.prog 4 h4 = some e4 := by kernel_rfl
theorem t5 : compF Try.prog 5 h5 = some e5 := by kernel_rfl
theorem t6 : compF Try.prog 6 h6 = some e6 := by kernel_rfl
theorem t7 : compF Try.prog 7 h7 = some e7 := by kernel_rfl
theorem t8 : compF Try.prog 8 h8 = some e8 := by kernel_rfl
theorem t9 : compF Try.prog 9 h9 = some e9 := by kernel_rfl
theorem t10 : compF Try.prog 10 h10 = some e10 := by kernel_rfl
theorem t11 : compF Try.prog 11 h11 = some e11 := by kernel_rfl
theorem t12 : compF Try.prog 12 h12 = some e12 := by kernel_rfl
theorem t13 : compF Try.prog 13 h13 = some e13 := by kernel_rfl
theorem t14 : compF Try.prog 14 h14 = some e14 := by kernel_rfl
theorem t15 : compF Try.prog 15 h15 = some e15 := by kernel_rfl
theorem t16 : compF Try.prog 16 h16 = some e16 := by kernel_rfl
theorem t17 : compF Try.prog 17 h17 = some e17 := by kernel_rfl
theorem t18 : compF Try.prog 18 h18 = some e18 := by kernel_rfl
theorem t19 : compF Try.prog 19 h19 = some e19 := by kernel_rfl
theorem t20 : compF Try.prog 20 h20 = some e20 := by kernel_rfl
theorem t21 : compF Try.prog 21 h21 = some e21 := by kernel_rfl
theorem t22 : compF Try.prog 22 h22 = some e22 := by kernel_rfl
theorem t23 : compF Try.prog 23 h23 = some e23 := by kernel_rfl
theorem t24 : compF Try.prog 24 h24 = some e24 := by kernel_rfl
theorem t25 : compF Try.prog 25 h25 = some e25 := by kernel_rfl
theorem t26 : compF Try.prog 26 h26 = some e26 := by kernel_rfl
theorem t27 : compF Try.prog 27 h27 = some e27 := by kernel_rfl
theorem t28 : compF Try.prog 28 h28 = some e28 := by kernel_rfl
theorem t29 : compF Try.prog 29 h29 = some e29 := by kernel_rfl
theorem t30 : compF Try.prog 30 h30 = some e30 := by kernel_rfl
theorem t31 : compF Try.prog 31 h31 = some e31 := by kernel_rfl
theorem t32 : compF Try.prog 32 h32 = some e32 := by kernel_rfl
theorem t33 : compF Try.prog 33 h33 = some e33 := by kernel_rfl
theorem t34 : compF Try.prog 34 h34 = some e34 := by kernel_rfl
theorem t35 : compF Try.prog 35 h35 = some e35 := by kernel_rfl
theorem t36 : compF Try.prog 36 h36 = some e36 := by kernel_rfl
theorem t37 : compF Try.prog 37 h37 = some e37 := by kernel_rfl
theorem t38 : compF Try.prog 38 h38 = some e38 := by kernel_rfl
theorem t39 : compF Try.prog 39 h39 = some e39 := by kernel_rfl
theorem t40 : compF Try.prog 40 h40 = some e40 := by kernel_rfl
theorem t41 : compF Try.prog 41 h41 = some e41 := by kernel_rfl
theorem t42 : compF Try.prog 42 h42 = some e42 := by kernel_rfl
theorem t43 : compF Try.prog 43 h43 = some e43 := by kernel_rfl
theorem t44 : compF Try.prog 44 h44 = some e44 := by kernel_rfl
theorem t45 : compF Try.prog 45 h45 = some e45 := by kernel_rfl
theorem t46 : compF Try.prog 46 h46 = some e46 := by kernel_rfl
theorem t47 : compF Try.prog 47 h47 = some e47 := by kernel_rfl
theorem t48 : compF Try.prog 48 h48 = some e48 := by kernel_rfl
theorem t49 : compF Try.prog 49 h49 = some e49 := by kernel_rfl
theorem t50 : compF Try.prog 50 h50 = some e50 := by kernel_rfl
theorem t51 : compF Try.prog 51 h51 = some e51 := by kernel_rfl
theorem t52 : compF Try.prog 52 h52 = some e52 := by kernel_rfl
theorem t53 : compF Try.prog 53 h53 = some e53 := by kernel_rfl
theorem t54 : compF Try.prog 54 h54 = some e54 := by kernel_rfl
theorem t55 : compF Try.prog 55 h55 = some e55 := by kernel_rfl
theorem t56 : compF Try.prog 56 h56 = some e56 := by kernel_rfl
theorem t57 : compF Try.prog 57 h57 = some e57 := by kernel_rfl
theorem table : ∀ f e, C f = some e → ∃ hs, compF Try.prog f hs = some e := by
  intro f e h
  unfold C at h
  split at h
  · cases h; exact ⟨_, t3⟩
  · cases h; exact ⟨_, t4⟩
  · cases h; exact ⟨_, t5⟩
  · cases h; exact ⟨_, t6⟩
  · cases h; exact ⟨_, t7⟩
  · cases h; exact ⟨_, t8⟩
  · cases h; exact ⟨_, t9⟩
  · cases h; exact ⟨_, t10⟩
  · cases h; exact ⟨_, t11⟩
  · cases h; exact ⟨_, t12⟩
  · cases h; exact ⟨_, t13⟩
  · cases h; exact ⟨_, t14⟩
  · cases h; exact ⟨_, t15⟩
  · cases h; exact ⟨_, t16⟩
  · cases h; exact ⟨_, t17⟩
  · cases h; exact ⟨_, t18⟩
  · cases h; exact ⟨_, t19⟩
  · cases h; exact ⟨_, t20⟩
  · cases h; exact ⟨_, t21⟩
  · cases h; exact ⟨_, t22⟩
  · cases h; exact ⟨_, t23⟩
  · cases h; exact ⟨_, t24⟩
  · cases h; exact ⟨_, t25⟩
  · cases h; exact ⟨_, t26⟩
  · cases h; exact ⟨_, t27⟩
  · cases h; exact ⟨_, t28⟩
  · cases h; exact ⟨_, t29⟩
  · cases h; exact ⟨_, t30⟩
  · cases h; exact ⟨_, t31⟩
  · cases h; exact ⟨_, t32⟩
  · cases h; exact ⟨_, t33⟩
  · cases h; exact ⟨_, t34⟩
  · cases h; exact ⟨_, t35⟩
  · cases h; exact ⟨_, t36⟩
  · cases h; exact ⟨_, t37⟩
  · cases h; exact ⟨_, t38⟩
  · cases h; exact ⟨_, t39⟩
  · cases h; exact ⟨_, t40⟩
  · cases h; exact ⟨_, t41⟩
  · cases h; exact ⟨_, t42⟩
  · cases h; exact ⟨_, t43⟩
  · cases h; exact ⟨_, t44⟩
  · cases h; exact ⟨_, t45⟩
  · cases h; exact ⟨_, t46⟩
  · cases h; exact ⟨_, t47⟩
  · cases h; exact ⟨_, t48⟩
  · cases h; exact ⟨_, t49⟩
  · cases h; exact ⟨_, t50⟩
  · cases h; exact ⟨_, t51⟩
  · cases h; exact ⟨_, t52⟩
  · cases h; exact ⟨_, t53⟩
  · cases h; exact ⟨_, t54⟩
  · cases h; exact ⟨_, t55⟩
  · cases h; exact ⟨_, t56⟩
  · cases h; exact ⟨_, t57⟩
  · cases h
end Go.Proofs.Ytcimcccnhbbncaa.Ev.CE
