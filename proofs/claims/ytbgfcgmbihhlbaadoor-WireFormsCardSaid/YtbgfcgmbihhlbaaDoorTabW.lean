/- The table's functions are the program's; group.Check is known by what it comes to. -/
import Derived.Test.YtbgfcgmbihhlbaaDoorRows
import Derived.Test.YtbgfcgmbihhlbaaDoorCodeW
import Derived.Test.YtbgfcgmbihhlbaaDoorChkY
import Derived.KernelRfl
import Derived.WalkSmall
namespace Go.Proofs.YtbgfcgmbihhlbaaDoor.Ev.CW
open Go Go.RowKit
set_option linter.unusedVariables false
set_option linter.unusedSimpArgs false
theorem mixed : Tryd.prog.follows .mixedOrders = true := by kernel_rfl
theorem t3 : compF Tryd.prog 3 h3 = some e3 := by kernel_rfl
theorem t8 : compF Tryd.prog 8 h8 = some e8 := by kernel_rfl
theorem t9 : compF Tryd.prog 9 h9 = some e9 := by kernel_rfl
theorem t10 : compF Tryd.prog 10 h10 = some e10 := by kernel_rfl
theorem t11 : compF Tryd.prog 11 h11 = some e11 := by kernel_rfl
theorem t12 : compF Tryd.prog 12 h12 = some e12 := by kernel_rfl
theorem t13 : compF Tryd.prog 13 h13 = some e13 := by kernel_rfl
theorem t14 : compF Tryd.prog 14 h14 = some e14 := by kernel_rfl
theorem t24 : compF Tryd.prog 24 h24 = some e24 := by kernel_rfl
theorem t25 : compF Tryd.prog 25 h25 = some e25 := by kernel_rfl
theorem t33 : compF Tryd.prog 33 h33 = some e33 := by kernel_rfl
theorem t38 : compF Tryd.prog 38 h38 = some e38 := by kernel_rfl
theorem t39 : compF Tryd.prog 39 h39 = some e39 := by kernel_rfl
theorem t40 : compF Tryd.prog 40 h40 = some e40 := by kernel_rfl
theorem t41 : compF Tryd.prog 41 h41 = some e41 := by kernel_rfl
theorem t42 : compF Tryd.prog 42 h42 = some e42 := by kernel_rfl
theorem t43 : compF Tryd.prog 43 h43 = some e43 := by kernel_rfl

/-- Nothing is asked of the memory in which a call begins. -/
def Gd : Base → Prop := fun _ => True
theorem stays : Stays Tryd.prog Gd := fun _ _ _ _ _ _ _ => trivial
theorem x23 : XOK Tryd.prog Gd 23 e23 := by
  refine ⟨1, 1, gCheck, rfl, fun b hg args h vs h' ρ w _ hga hm hf R hwf => ⟨⟨Tryd.f23, Tryd.func23, by decide +kernel, by kernel_rfl⟩, ?_⟩⟩
  unfold gCheck at hga
  split at hga
  · rename_i l h0
    split at hga
    · rename_i m hc
      obtain ⟨rfl, rfl⟩ := Prod.mk.inj (Option.some.inj hga)
      obtain rfl := CK.cmOf_some hc
      refine (CK.check_calls m R (hwf _ List.mem_cons_self)).mono fun e w' hq => ?_
      obtain ⟨ρ', rfl, R', E'⟩ := hq
      exact ⟨ρ', rfl, R', E', Nat.le_refl _, trivial⟩
    · cases hga
  · cases hga
theorem table : ∀ f e, C f = some e → (∃ hs, compF Tryd.prog f hs = some e) ∨ XOK Tryd.prog Gd f e := by
  intro f e h
  unfold C at h
  split at h
  · cases h; exact .inl ⟨_, t3⟩
  · cases h; exact .inl ⟨_, t8⟩
  · cases h; exact .inl ⟨_, t9⟩
  · cases h; exact .inl ⟨_, t10⟩
  · cases h; exact .inl ⟨_, t11⟩
  · cases h; exact .inl ⟨_, t12⟩
  · cases h; exact .inl ⟨_, t13⟩
  · cases h; exact .inl ⟨_, t14⟩
  · cases h; exact .inl ⟨_, t24⟩
  · cases h; exact .inl ⟨_, t25⟩
  · cases h; exact .inl ⟨_, t33⟩
  · cases h; exact .inl ⟨_, t38⟩
  · cases h; exact .inl ⟨_, t39⟩
  · cases h; exact .inl ⟨_, t40⟩
  · cases h; exact .inl ⟨_, t41⟩
  · cases h; exact .inl ⟨_, t42⟩
  · cases h; exact .inl ⟨_, t43⟩
  · cases h; exact .inr x23
  · cases h
end Go.Proofs.YtbgfcgmbihhlbaaDoor.Ev.CW
