/- The plain laws of what is used of losses. -/
import Derived.Test.YtfnihfcdoibleaaUseTells
set_option linter.unusedSimpArgs false
set_option linter.unusedVariables false
namespace Go.Proofs.Ytfnihfcdoibleaa.Ev.CU
open Go

theorem vec_mono {y : Int} : ∀ {l : List Vi} {p q : Int}, 0 ≤ p → p ≤ q → (∀ k (h1 : k < (vecF y p l).length) (h2 : k < (vecF y q l).length), (vecF y p l)[k] ≤ (vecF y q l)[k]) ∧ (vecF y q l).sum - (vecF y p l).sum ≤ q - p
  | [], p, q, _, h => by simp [vecF]; omega
  | v :: r, p, q, h0, h => by
    simp only [vecF]
    have hx : (if v.e ≥ y then min v.l p else 0) ≤ (if v.e ≥ y then min v.l q else 0) ∧ (if v.e ≥ y then min v.l p else 0) ≤ p ∧ p - (if v.e ≥ y then min v.l p else 0) ≤ q - (if v.e ≥ y then min v.l q else 0) := by split <;> omega
    obtain ⟨i1, i2⟩ := vec_mono (y := y) (l := r) (p := p - (if v.e ≥ y then min v.l p else 0)) (q := q - (if v.e ≥ y then min v.l q else 0)) (by have := hx.2.1; generalize (if v.e ≥ y then min v.l p else 0) = a at this; omega) hx.2.2
    refine ⟨fun k h1 h2 => ?_, ?_⟩
    · cases k with
      | zero => exact hx.1
      | succ k => exact i1 k (by simpa using h1) (by simpa using h2)
    · simp only [List.sum_cons]
      generalize (if v.e ≥ y then min v.l p else 0) = a at *
      generalize (if v.e ≥ y then min v.l q else 0) = b at *
      omega
theorem vec_zero {y : Int} : ∀ {l : List Vi}, (∀ v ∈ l, 1 ≤ v.l) → ∀ x ∈ vecF y 0 l, x = 0
  | [], _, x, h => by simp [vecF] at h
  | v :: r, hp, x, h => by
    have := hp v List.mem_cons_self
    have e : (if v.e ≥ y then min v.l 0 else 0) = 0 := by split <;> omega
    simp only [vecF, e] at h
    rcases List.mem_cons.1 h with rfl | h
    · rfl
    · exact vec_zero (fun w hw => hp w (List.mem_cons_of_mem _ hw)) x h
theorem vec_all {y : Int} : ∀ {l : List Vi} {p : Int}, (∀ v ∈ l, 1 ≤ v.l) → (lefts l).sum ≤ p → vecF y p l = l.map fun v => if v.e < y then 0 else v.l
  | [], p, _, _ => rfl
  | v :: r, p, hp, h => by
    have hv := hp v List.mem_cons_self
    have hr := sum_nonneg (lefts_nonneg (l := r) fun w hw => hp w (List.mem_cons_of_mem _ hw))
    have e : (lefts (v :: r)).sum = v.l + (lefts r).sum := by simp [lefts]
    simp only [vecF, List.map_cons]
    by_cases c : v.e ≥ y
    · have c' : ¬ v.e < y := by omega
      rw [if_pos c, if_neg c', vec_all (fun w hw => hp w (List.mem_cons_of_mem _ hw)) (by omega)]
      rw [show min v.l p = v.l by omega]
    · have c' : v.e < y := by omega
      rw [if_neg c, if_pos c', vec_all (fun w hw => hp w (List.mem_cons_of_mem _ hw)) (by omega)]
theorem vec_sum_le {y : Int} : ∀ {l : List Vi} {p : Int}, 0 ≤ p → (vecF y p l).sum ≤ p
  | [], p, h => by simp [vecF]; omega
  | v :: r, p, h => by
    have hx : (if v.e ≥ y then min v.l p else 0) ≤ p := by split <;> omega
    simp only [vecF]
    generalize (if v.e ≥ y then min v.l p else 0) = a at hx
    have := vec_sum_le (y := y) (l := r) (p := p - a) (by omega)
    simp only [List.sum_cons]; omega
end Go.Proofs.Ytfnihfcdoibleaa.Ev.CU
