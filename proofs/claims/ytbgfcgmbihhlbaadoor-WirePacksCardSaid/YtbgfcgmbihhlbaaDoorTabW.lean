/- The table's functions are the program's; group.Check is known by what it comes to. -/
import Derived.Test.YtbgfcgmbihhlbaaDoorRows
import Derived.Test.YtbgfcgmbihhlbaaDoorCodeW
import Derived.Test.YtbgfcgmbihhlbaaDoorChkY
import Derived.KernelRfl
import Derived.WalkSmall
namespace Go.Proofs.YtbgfcgmbihhlbaaDoor.Ev.CW
open Go Go.RowKit
set_option linter.unusedVariables false
set_option linter.unusedSimpArgs false
theorem mixed : Tryd.prog.follows .mixedOrders = true := by kernel_rfl
theorem t3 : compF Tryd.prog 3 h3 = some e3 := by kernel_rfl
theorem t4 : compF Tryd.prog 4 h4 = some e4 := by kernel_rfl
theorem t6 : compF Tryd.prog 6 h6 = some e6 := by kernel_rfl
theorem t7 : compF Tryd.prog 7 h7 = some e7 := by kernel_rfl
theorem t8 : compF Tryd.prog 8 h8 = some e8 := by kernel_rfl
theorem t9 : compF Tryd.prog 9 h9 = some e9 := by kernel_rfl
theorem t10 : compF Tryd.prog 10 h10 = some e10 := by kernel_rfl
theorem t11 : compF Tryd.prog 11 h11 = some e11 := by kernel_rfl
theorem t12 : compF Tryd.prog 12 h12 = some e12 := by kernel_rfl
theorem t13 : compF Tryd.prog 13 h13 = some e13 := by kernel_rfl
theorem t14 : compF Tryd.prog 14 h14 = some e14 := by kernel_rfl
theorem t15 : compF Tryd.prog 15 h15 = some e15 := by kernel_rfl
theorem t16 : compF Tryd.prog 16 h16 = some e16 := by kernel_rfl
theorem t17 : compF Tryd.prog 17 h17 = some e17 := by kernel_rfl
theorem t18 : compF Tryd.prog 18 h18 = some e18 := by kernel_rfl
theorem t22 : compF Tryd.prog 22 h22 = some e22 := by kernel_rfl
theorem t24 : compF Tryd.prog 24 h24 = some e24 := by kernel_rfl
theorem t25 : compF Tryd.prog 25 h25 = some e25 := by kernel_rfl
theorem t26 : compF Tryd.prog 26 h26 = some e26 := by kernel_rfl
theorem t27 : compF Tryd.prog 27 h27 = some e27 := by kernel_rfl
theorem t28 : compF Tryd.prog 28 h28 = some e28 := by kernel_rfl
theorem t29 : compF Tryd.prog 29 h29 = some e29 := by kernel_rfl
theorem t30 : compF Tryd.prog 30 h30 = some e30 := by kernel_rfl
theorem t31 : compF Tryd.prog 31 h31 = some e31 := by kernel_rfl
theorem t32 : compF Tryd.prog 32 h32 = some e32 := by kernel_rfl
theorem t33 : compF Tryd.prog 33 h33 = some e33 := by kernel_rfl
theorem t38 : compF Tryd.prog 38 h38 = some e38 := by kernel_rfl
theorem t39 : compF Tryd.prog 39 h39 = some e39 := by kernel_rfl
theorem t40 : compF Tryd.prog 40 h40 = some e40 := by kernel_rfl
theorem t41 : compF Tryd.prog 41 h41 = some e41 := by kernel_rfl
theorem t42 : compF Tryd.prog 42 h42 = some e42 := by kernel_rfl
theorem t43 : compF Tryd.prog 43 h43 = some e43 := by kernel_rfl
theorem t44 : compF Tryd.prog 44 h44 = some e44 := by kernel_rfl
theorem t45 : compF Tryd.prog 45 h45 = some e45 := by kernel_rfl
theorem t46 : compF Tryd.prog 46 h46 = some e46 := by kernel_rfl
theorem t47 : compF Tryd.prog 47 h47 = some e47 := by kernel_rfl
theorem t48 : compF Tryd.prog 48 h48 = some e48 := by kernel_rfl
theorem t49 : compF Tryd.prog 49 h49 = some e49 := by kernel_rfl
theorem t52 : compF Tryd.prog 52 h52 = some e52 := by kernel_rfl
theorem t20 : compF Tryd.prog 20 h20 = some e20 := by kernel_rfl

/-- Nothing is asked of the memory in which a call begins. -/
def Gd : Base → Prop := fun _ => True
theorem stays : Stays Tryd.prog Gd := fun _ _ _ _ _ _ _ => trivial
theorem x23 : XOK Tryd.prog Gd 23 e23 := by
  refine ⟨1, 1, gCheck, rfl, fun b hg args h vs h' ρ w _ hga hm hf R hwf => ⟨⟨Tryd.f23, Tryd.func23, by decide +kernel, by kernel_rfl⟩, ?_⟩⟩
  unfold gCheck at hga
  split at hga
  · rename_i l h0
    split at hga
    · rename_i m hc
      obtain ⟨rfl, rfl⟩ := Prod.mk.inj (Option.some.inj hga)
      obtain rfl := CK.cmOf_some hc
      refine (CK.check_calls m R (hwf _ List.mem_cons_self)).mono fun e w' hq => ?_
      obtain ⟨ρ', rfl, R', E'⟩ := hq
      exact ⟨ρ', rfl, R', E', Nat.le_refl _, trivial⟩
    · cases hga
  · cases hga
theorem table : ∀ f e, C f = some e → (∃ hs, compF Tryd.prog f hs = some e) ∨ XOK Tryd.prog Gd f e := by
  intro f e h
  unfold C at h
  split at h
  · cases h; exact .inl ⟨_, t3⟩
  · cases h; exact .inl ⟨_, t4⟩
  · cases h; exact .inl ⟨_, t6⟩
  · cases h; exact .inl ⟨_, t7⟩
  · cases h; exact .inl ⟨_, t8⟩
  · cases h; exact .inl ⟨_, t9⟩
  · cases h; exact .inl ⟨_, t10⟩
  · cases h; exact .inl ⟨_, t11⟩
  · cases h; exact .inl ⟨_, t12⟩
  · cases h; exact .inl ⟨_, t13⟩
  · cases h; exact .inl ⟨_, t14⟩
  · cases h; exact .inl ⟨_, t15⟩
  · cases h; exact .inl ⟨_, t16⟩
  · cases h; exact .inl ⟨_, t17⟩
  · cases h; exact .inl ⟨_, t18⟩
  · cases h; exact .inl ⟨_, t22⟩
  · cases h; exact .inl ⟨_, t24⟩
  · cases h; exact .inl ⟨_, t25⟩
  · cases h; exact .inl ⟨_, t26⟩
  · cases h; exact .inl ⟨_, t27⟩
  · cases h; exact .inl ⟨_, t28⟩
  · cases h; exact .inl ⟨_, t29⟩
  · cases h; exact .inl ⟨_, t30⟩
  · cases h; exact .inl ⟨_, t31⟩
  · cases h; exact .inl ⟨_, t32⟩
  · cases h; exact .inl ⟨_, t33⟩
  · cases h; exact .inl ⟨_, t38⟩
  · cases h; exact .inl ⟨_, t39⟩
  · cases h; exact .inl ⟨_, t40⟩
  · cases h; exact .inl ⟨_, t41⟩
  · cases h; exact .inl ⟨_, t42⟩
  · cases h; exact .inl ⟨_, t43⟩
  · cases h; exact .inl ⟨_, t44⟩
  · cases h; exact .inl ⟨_, t45⟩
  · cases h; exact .inl ⟨_, t46⟩
  · cases h; exact .inl ⟨_, t47⟩
  · cases h; exact .inl ⟨_, t48⟩
  · cases h; exact .inl ⟨_, t49⟩
  · cases h; exact .inl ⟨_, t52⟩
  · cases h; exact .inl ⟨_, t20⟩
  · cases h; exact .inr x23
  · cases h
end Go.Proofs.YtbgfcgmbihhlbaaDoor.Ev.CW
