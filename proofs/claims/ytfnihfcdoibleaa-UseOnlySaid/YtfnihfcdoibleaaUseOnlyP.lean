/- The plain law of the one right vector. -/
import Derived.Test.YtfnihfcdoibleaaUseTwice
set_option linter.unusedSimpArgs false
set_option linter.unusedVariables false
namespace Go.Proofs.Ytfnihfcdoibleaa.Ev.CU
open Go

/-- What the law asks of each number of a vector, ahead of it: is everything used so far? -/
def stepR (y : Int) (whole : Bool) (v : Vi) (u : Int) : Bool := decide (u < 0) || (decide (u > v.l) || ((decide (v.e < y) && (u != 0)) || (decide (u > 0) && !whole)))
def wholeR (y : Int) (whole : Bool) (v : Vi) (u : Int) : Bool := if v.e ≥ y then whole && (u == v.l) else whole
def thereR (y : Int) (there : Int) (v : Vi) : Int := if v.e ≥ y then there + v.l else there
def rightR (y room : Int) : Int → Int → Bool → List Vi → List Int → Bool
  | sum, there, whole, v :: r, u :: us => if stepR y whole v u then false else rightR y room (sum + u) (thereR y there v) (wholeR y whole v u) r us
  | sum, there, _, _, _ => sum == min there room

theorem step_no {y : Int} {whole : Bool} {v : Vi} {u : Int} : stepR y whole v u = false ↔ 0 ≤ u ∧ u ≤ v.l ∧ (v.e < y → u = 0) ∧ (0 < u → whole = true) := by
  unfold stepR
  cases whole <;> simp <;> constructor <;> intro h <;> refine ⟨?_, ?_, ?_⟩ <;> first
    | omega
    | (intro q; omega)
    | (intro q; apply Classical.byContradiction; intro z; omega)

/-- Behind a row that is not wholly used nothing is used. -/
theorem right_false {y room : Int} : ∀ (l : List Vi) (u : List Int) (sum there : Int), u.length = l.length → rightR y room sum there false l u = true → (∀ x ∈ u, x = 0) ∧ sum = min (l.foldl (thereR y) there) room
  | [], [], sum, there, _, h => by simpa [rightR] using h
  | v :: r, x :: us, sum, there, hl, h => by
    unfold rightR at h
    cases hs : stepR y false v x with
    | true => rw [hs] at h; cases h
    | false =>
      rw [hs] at h
      obtain ⟨a, b, c, d⟩ := step_no.1 hs
      have hx : x = 0 := by
        by_cases z : 0 < x
        · exact absurd (d z) (by decide)
        · omega
      subst hx
      have hw : wholeR y false v 0 = false := by unfold wholeR; split <;> rfl
      rw [hw] at h
      obtain ⟨e, f⟩ := right_false r us _ _ (by simpa using hl) (by simpa using h)
      refine ⟨fun z hz => ?_, by simpa using f⟩
      rcases List.mem_cons.1 hz with rfl | hz
      · rfl
      · exact e z hz
  | [], _ :: _, _, _, h, _ => by simp at h
  | _ :: _, [], _, _, h, _ => by simp at h

theorem there_mono {y : Int} : ∀ (l : List Vi) (there : Int), (∀ v ∈ l, 1 ≤ v.l) → there ≤ l.foldl (thereR y) there
  | [], _, _ => Int.le_refl _
  | v :: r, there, h => by
    have hv := h v List.mem_cons_self
    have := there_mono (y := y) r (thereR y there v) fun w hw => h w (List.mem_cons_of_mem _ hw)
    rw [List.foldl_cons]
    have : there ≤ thereR y there v := by unfold thereR; split <;> omega
    omega

theorem zeros_eq : ∀ (u w : List Int), u.length = w.length → (∀ x ∈ u, x = 0) → (∀ x ∈ w, x = 0) → u = w
  | [], [], _, _, _ => rfl
  | a :: u, b :: w, h, h1, h2 => by
    rw [h1 a List.mem_cons_self, h2 b List.mem_cons_self, zeros_eq u w (by simpa using h) (fun x hx => h1 x (List.mem_cons_of_mem _ hx)) (fun x hx => h2 x (List.mem_cons_of_mem _ hx))]
  | [], _ :: _, h, _, _ => by simp at h
  | _ :: _, [], h, _, _ => by simp at h

/-- While everything is used, what is used is what there is. -/
theorem right_true {y room : Int} : ∀ (l : List Vi) (u : List Int) (sum : Int), (∀ v ∈ l, 1 ≤ v.l) → u.length = l.length → sum ≤ room → (rightR y room sum sum true l u = true ↔ u = vecF y (room - sum) l)
  | [], [], sum, _, _, hs => by simp [rightR, vecF]; omega
  | v :: r, x :: us, sum, hp, hl, hs => by
    have hv := hp v List.mem_cons_self
    have hp' := fun w hw => hp w (List.mem_cons_of_mem v hw)
    have hl' : us.length = r.length := by simpa using hl
    unfold rightR
    simp only [vecF, List.cons.injEq]
    by_cases c : v.e ≥ y
    · have c' : ¬ v.e < y := by omega
      simp only [if_pos c]
      cases hst : stepR y true v x with
      | true =>
        simp only [if_true, Bool.false_eq_true, false_iff]
        rintro ⟨rfl, _⟩
        have : stepR y true v (min v.l (room - sum)) = false := step_no.2 ⟨by omega, by omega, fun h => absurd h c', fun _ => rfl⟩
        rw [this] at hst; cases hst
      | false =>
        obtain ⟨a, b, _, _⟩ := step_no.1 hst
        have ht : thereR y sum v = sum + v.l := by unfold thereR; rw [if_pos c]
        simp only [Bool.false_eq_true, if_false, ht]
        by_cases d : x = v.l
        · have hw : wholeR y true v x = true := by unfold wholeR; rw [if_pos c]; simp [d]
          rw [hw, d]
          by_cases e : sum + v.l ≤ room
          · rw [right_true r us (sum + v.l) hp' hl' e]
            have e1 : min v.l (room - sum) = v.l := by omega
            rw [e1]
            have e2 : room - (sum + v.l) = room - sum - v.l := by omega
            rw [e2]; simp
          · constructor
            · intro h
              exfalso
              have : ∀ (l : List Vi) (u : List Int) (s t : Int) (w : Bool), u.length = l.length → (∀ v ∈ l, 1 ≤ v.l) → room < s → rightR y room s t w l u = true → False := by
                intro l
                induction l with
                | nil =>
                  intro u s t w hu _ hs h
                  cases u with
                  | nil => simp [rightR] at h; omega
                  | cons => simp at hu
                | cons v r ih =>
                  intro u s t w hu hp hs h
                  cases u with
                  | nil => simp at hu
                  | cons x us =>
                    unfold rightR at h
                    cases hst : stepR y w v x with
                    | true => rw [hst] at h; cases h
                    | false =>
                      rw [hst] at h
                      obtain ⟨a, b, _, _⟩ := step_no.1 hst
                      exact ih us (s + x) _ _ (by simpa using hu) (fun w hw => hp w (List.mem_cons_of_mem _ hw)) (by omega) (by simpa using h)
              exact this r us _ _ _ hl' hp' (by omega) h
            · rintro ⟨h, _⟩; omega
        · have hw : wholeR y true v x = false := by unfold wholeR; rw [if_pos c]; simp [d]
          rw [hw]
          constructor
          · intro h
            obtain ⟨z1, z2⟩ := right_false r us _ _ hl' h
            have z3 := there_mono (y := y) r (sum + v.l) hp'
            have z4 : x = room - sum := by omega
            have z5 : min v.l (room - sum) = room - sum := by omega
            refine ⟨by omega, zeros_eq _ _ (by rw [vecF_len]; exact hl') z1 ?_⟩
            rw [z5, Int.sub_self]
            exact vec_zero hp'
          · rintro ⟨h1, h2⟩
            have z5 : min v.l (room - sum) = room - sum := by omega
            rw [z5] at h1 h2
            rw [Int.sub_self] at h2
            have hz : ∀ x ∈ us, x = 0 := by rw [h2]; exact vec_zero hp'
            have : ∀ (l : List Vi) (u : List Int) (t : Int), u.length = l.length → (∀ v ∈ l, 1 ≤ v.l) → (∀ x ∈ u, x = 0) → room ≤ t → rightR y room room t false l u = true := by
              intro l
              induction l with
              | nil =>
                intro u t hu _ _ ht
                cases u with
                | nil => simp [rightR]; omega
                | cons => simp at hu
              | cons v r ih =>
                intro u t hu hp hz ht
                cases u with
                | nil => simp at hu
                | cons x us =>
                  have hx := hz x List.mem_cons_self
                  subst hx
                  have hv := hp v List.mem_cons_self
                  have hst : stepR y false v 0 = false := step_no.2 ⟨by omega, by omega, fun _ => rfl, fun h => by omega⟩
                  have hw : wholeR y false v 0 = false := by unfold wholeR; split <;> rfl
                  unfold rightR
                  rw [hst, hw]
                  simp only [Bool.false_eq_true, if_false, Int.add_zero]
                  exact ih us _ (by simpa using hu) (fun w hw => hp w (List.mem_cons_of_mem _ hw)) (fun z hz' => hz z (List.mem_cons_of_mem _ hz')) (by unfold thereR; split <;> omega)
            have e : sum + x = room := by omega
            rw [e]
            exact this r us _ hl' hp' hz (by omega)
    · simp only [if_neg c, Int.sub_zero]
      have c' : v.e < y := by omega
      cases hst : stepR y true v x with
      | true =>
        simp only [if_true, Bool.false_eq_true, false_iff]
        rintro ⟨rfl, _⟩
        have : stepR y true v 0 = false := step_no.2 ⟨by omega, by omega, fun h => rfl, fun _ => rfl⟩
        rw [this] at hst; cases hst
      | false =>
        obtain ⟨_, _, d, _⟩ := step_no.1 hst
        have hx := d c'
        subst hx
        have ht : thereR y sum v = sum := by unfold thereR; rw [if_neg c]
        have hw : wholeR y true v 0 = true := by unfold wholeR; rw [if_neg c]
        simp only [Bool.false_eq_true, if_false, ht, hw, Int.add_zero, true_and]
        exact right_true r us sum hp' hl' hs
  | [], _ :: _, _, _, h, _ => by simp at h
  | _ :: _, [], _, _, h, _ => by simp at h
end Go.Proofs.Ytfnihfcdoibleaa.Ev.CU
