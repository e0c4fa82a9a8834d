/- Two lists of one kind. -/
import Derived.Test.YtejoijjmlglhfaaSpL
set_option linter.unusedSimpArgs false
set_option linter.unusedVariables false
namespace Go.Proofs.Ytejoijjmlglhfaa.Ev.CS
open Go

/-- Two lists that are not of one object. -/
def Apart (v v' : SV) : Prop := ∀ i p o n p' o' n', v = .sl i p o n → v' ≠ .sl i p' o' n'
theorem Apart.symm {v v' : SV} (a : Apart v v') : Apart v' v := fun i p o n p' o' n' h h' => a i p' o' n' p o n h' h
theorem Apart.nils (v : SV) : Apart .nils v := fun i p o n p' o' n' h => by cases h
theorem Ow.apart_new {α : Type} {enc : α → List SV} {b t m : Nat} {h : LH} {v : SV} {l : List α} (r : Ow b h t enc v l) (hm : h.length ≤ m) (p o n : Nat) : Apart (.sl m p o n) v := by
  intro i p o n p' o' n' e e'
  cases e
  rcases r with ⟨_, e⟩ | ⟨j, _, e, r3⟩
  · rw [e] at e'; cases e'
  · rw [e] at e'
    cases e'
    have := lt_of_some r3
    omega
theorem Ow.kill_apart {α β : Type} {enc : α → List SV} {enc' : β → List SV} {b b' t t' : Nat} {h : LH} {v v' : SV} {l : List α} {l' : List β} (r : Ow b h t enc v l) (r' : Ow b' h t' enc' v' l') (ap : Apart v v') (q s : LH) : Ow b' (kill v (h ++ q) ++ s) t' enc' v' l' := by
  have r2 := r'.gr (Gr.self h q)
  rcases r with ⟨_, rfl⟩ | ⟨j, _, rfl, r3⟩
  · exact r2.gr (Gr.self (h ++ q) s)
  · have := r2.set2 (i := j) (fun p o n e => ap _ _ _ _ _ _ _ rfl e) .dead
    exact this.gr (Gr.self _ s)
theorem sum_leB {B : Int} : ∀ {l : List Int}, (∀ x ∈ l, x ≤ B) → l.sum ≤ B * l.length
  | [], _ => by simp
  | a :: l, h => by
    have h1 := sum_leB (l := l) fun x hx => h x (List.mem_cons_of_mem _ hx)
    have h2 := h a List.mem_cons_self
    rw [List.sum_cons, List.length_cons, Int.natCast_add, Int.mul_add]
    omega
end Go.Proofs.Ytejoijjmlglhfaa.Ev.CS
