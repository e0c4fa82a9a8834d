/- A group that is new: nothing is in it. -/
import Derived.Test.YtiljgimcipdadaaGreatDoorCodeF
import Derived.Test.YtiljgimcipdadaaGreatDoorEvShift
set_option linter.unusedSimpArgs false
set_option linter.unusedVariables false
set_option maxRecDepth 100000
attribute [-simp] getElem?_pos
namespace Go.Proofs.YtiljgimcipdadaaGreatDoor.Ev.CF
open Go

def isTrue : Option (FV × LH) → Bool
  | some (.s (.bool true), _) => true
  | _ => false
theorem of_isTrue {r : Option (FV × LH)} (h : isTrue r = true) : ∃ h', r = some (.s (.bool true), h') := by
  unfold isTrue at h
  split at h
  · exact ⟨_, rfl⟩
  · cases h

theorem gCheck_sh : GSh gCheck := by
  intro pre args h vs h' he
  unfold gCheck at he
  split at he
  · rename_i l h0
    split at he
    · rename_i m hm
      obtain ⟨rfl, rfl⟩ := Prod.mk.inj (Option.some.inj he)
      obtain rfl := CK.cmOf_some hm
      rfl
    · cases he
  · cases he
theorem gGrow_sh : GSh gGrow := by
  intro pre args h vs h' he
  unfold gGrow at he
  split at he
  · rename_i n h0
    split at he
    · rename_i hn
      split at he
      · rename_i h1
        obtain ⟨rfl, rfl⟩ := Prod.mk.inj (Option.some.inj he)
        simp only [shVs, shV, shS, gGrow]
        rw [if_pos hn, if_pos h1]
      · rename_i h1
        obtain ⟨rfl, rfl⟩ := Prod.mk.inj (Option.some.inj he)
        simp only [shVs, shV, shS, gGrow]
        rw [if_pos hn, if_neg h1, ← sh_app, sh_len]; rfl
    · cases he
  · cases he
theorem tabSh : TabSh C := by
  intro f e h
  unfold C at h
  split at h <;> first
    | (cases h; exact nlCB_ok (by decide +kernel))
    | (cases h; exact gCheck_sh)
    | (cases h; exact gGrow_sh)
    | cases h

theorem wakes_run : isTrue (callB C 400 11 [] []) = true := by decide +kernel
theorem wakes_ok (h : LH) : ∃ h', callX C 11 [] h = some (.s (.bool true), h') := by
  obtain ⟨h', he⟩ := of_isTrue wakes_run
  exact ⟨_, callX_any tabSh (run_call 400 he) h⟩
end Go.Proofs.YtiljgimcipdadaaGreatDoor.Ev.CF
