/- Plain lemmas on numbers: wrap64 inside its range, products' bounds, rounding. No condition beside the hypotheses of each. -/
import Derived.RowKit
import Derived.Test.YtfnihfcdoibleaaWMore
namespace Go.Proofs.Ytfnihfcdoibleaa.Nums
open Go.RowKit Go.Proofs.YtfnihfcdoibleaaW.PrintWords Go.Proofs.YtfnihfcdoibleaaW.PrintMore

theorem w64 {n : Int} (h1 : -9223372036854775808 ≤ n) (h2 : n ≤ 9223372036854775807) : wrap64 n = n := by
  unfold wrap64; omega

theorem wf64 {a : Int} (h : (Lit.int .i64 a).wf = true) : -9223372036854775808 ≤ a ∧ a ≤ 9223372036854775807 := by
  simp [Lit.wf, IntKind.min, IntKind.max, IntKind.signed, IntKind.bits] at h
  omega

theorem mul_bd {a b A B : Int} (a0 : 0 ≤ a) (a1 : a ≤ A) (b0 : 0 ≤ b) (b1 : b ≤ B) : 0 ≤ a * b ∧ a * b ≤ A * B :=
  ⟨Int.mul_nonneg a0 b0, Int.mul_le_mul a1 b1 b0 (by omega)⟩

theorem mul_bd' {a b A B : Int} (a0 : -A ≤ a) (a1 : a ≤ A) (b0 : 0 ≤ b) (b1 : b ≤ B) : -(A * B) ≤ a * b ∧ a * b ≤ A * B := by
  have hA : 0 ≤ A := by omega
  have h1 : a * b ≤ A * B := by
    have := Int.mul_le_mul_of_nonneg_right a1 b0
    have := Int.mul_le_mul_of_nonneg_left b1 hA
    omega
  have h2 : -A * b ≤ a * b := Int.mul_le_mul_of_nonneg_right a0 b0
  have h3 : A * b ≤ A * B := Int.mul_le_mul_of_nonneg_left b1 hA
  rw [Int.neg_mul] at h2
  omega

/-- The nearest whole number of millionths, halves away from 0. -/
def rnd (p : Int) : Int := if 0 ≤ p then (2 * p + 1000000) / 2000000 else -((-(2 * p) + 1000000) / 2000000)

theorem tdiv_pos {a b : Int} (h : 0 ≤ a) : Int.tdiv a b = a / b := Int.tdiv_eq_ediv_of_nonneg h

theorem tdiv_neg' {a b : Int} (h : a ≤ 0) : Int.tdiv a b = -((-a) / b) := by
  have : Int.tdiv a b = -(Int.tdiv (-a) b) := by rw [Int.neg_tdiv]; omega
  rw [this, tdiv_pos (by omega)]

theorem rnd_neg (p : Int) : rnd (-p) = -rnd p := by
  unfold rnd; split <;> split <;> omega

theorem tmod_pos {a b : Int} (h : 0 ≤ a) : Int.tmod a b = a % b := Int.tmod_eq_emod_of_nonneg h

theorem tmod_neg' {a b : Int} (h : a ≤ 0) : Int.tmod a b = -((-a) % b) := by
  have : Int.tmod a b = -(Int.tmod (-a) b) := by rw [Int.neg_tmod]; omega
  rw [this, tmod_pos (by omega)]

theorem tdiv_bd {a b : Int} (hb : 1 ≤ b) (h1 : -9223372036854775808 ≤ a) (h2 : a ≤ 9223372036854775807) : -9223372036854775808 ≤ Int.tdiv a b ∧ Int.tdiv a b ≤ 9223372036854775807 := by
  rcases Int.lt_or_le a 0 with h | h
  · rw [tdiv_neg' (by omega)]
    have := Int.ediv_le_self b (show 0 ≤ -a by omega)
    have := Int.ediv_nonneg (show 0 ≤ -a by omega) (show 0 ≤ b by omega)
    omega
  · rw [tdiv_pos h]
    have := Int.ediv_le_self b h
    have := Int.ediv_nonneg h (show 0 ≤ b by omega)
    omega
theorem rnd_pos {p : Int} (h : 0 ≤ p) : 2000000 * rnd p ≤ 2 * p + 1000000 ∧ 2 * p + 1000000 < 2000000 * rnd p + 2000000 := by
  unfold rnd; rw [if_pos h]; omega

theorem rnd_negs {p : Int} (h : p < 0) : -(2 * p) + 1000000 - 2000000 < -(2000000 * rnd p) ∧ -(2000000 * rnd p) ≤ -(2 * p) + 1000000 := by
  unfold rnd; rw [if_neg (by omega)]; omega

theorem rnd_whole (n : Int) : rnd (n * 1000000) = n := by
  unfold rnd; split <;> omega

theorem rnd_zero (n : Int) : rnd (n * 0) = 0 := by
  rw [Int.mul_zero]; rfl

theorem beq_t {a b : Int} (h : a = b) : (a == b) = true := beq_iff_eq.2 h
theorem beq_f {a b : Int} (h : a ≠ b) : (a == b) = false := beq_eq_false_iff_ne.2 h
theorem bne_t {a b : Int} (h : a ≠ b) : (a != b) = true := bne_iff_ne.2 h
theorem bne_f {a b : Int} (h : a = b) : (a != b) = false := by simp [h]
theorem dec_t {c : Prop} [Decidable c] (h : c) : decide c = true := decide_eq_true h
theorem dec_f {c : Prop} [Decidable c] (h : ¬ c) : decide c = false := decide_eq_false h
/-- A part of an amount from 0 on lies between 0 and it. -/
theorem rnd_bd {n r : Int} (h1 : 0 ≤ n) (h3 : 0 ≤ r) (h4 : r ≤ 1000000) : 0 ≤ rnd (n * r) ∧ rnd (n * r) ≤ n := by
  have a : 0 ≤ n * r := Int.mul_nonneg h1 h3
  have b : n * r ≤ n * 1000000 := Int.mul_le_mul_of_nonneg_left h4 h1
  have c := rnd_pos a
  omega
end Go.Proofs.Ytfnihfcdoibleaa.Nums
