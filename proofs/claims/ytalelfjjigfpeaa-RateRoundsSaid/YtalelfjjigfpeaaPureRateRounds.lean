/- Proved: the law RateRounds is true of every input: a part is the nearest whole number, halves away from 0. No condition. -/
import Derived.Test.YtalelfjjigfpeaaPRateRoundsx1
import Derived.Test.YtalelfjjigfpeaaNums
namespace Go.Proofs.Ytalelfjjigfpeaa.Pure
set_option linter.unusedSimpArgs false
open Go.RowKit Go.Proofs.Ytalelfjjigfpeaa.PRateRounds Go.Proofs.YtalelfjjigfpeaaW.PrintWords Go.Proofs.YtalelfjjigfpeaaW.PrintLast Go.Proofs.YtalelfjjigfpeaaW.PrintMore

/- rate.Of, scutagekeep.Within as printed for one law: what they answer. -/
theorem within (a m : Int) (h : (Lit.int .i64 a).wf = true) (hm : 1 ≤ m) (hm2 : m ≤ 9223372036854775807) : ∃ n, scutagekeep_Within.f a m = some n ∧ 0 ≤ n ∧ n < m := by
  obtain ⟨h1, h2⟩ := Nums.wf64 h
  unfold scutagekeep_Within.f
  rw [if_neg (by omega), if_neg (by omega)]
  have q1 := Int.tmod_lt_of_pos a (show 0 < m by omega)
  have q2 := Int.lt_tmod_of_pos a (show 0 < m by omega)
  by_cases c : Int.tmod a m < 0
  · rw [if_pos c]
    exact ⟨_, rfl, by rw [Nums.w64 (by omega) (by omega)]; omega, by rw [Nums.w64 (by omega) (by omega)]; omega⟩
  · rw [if_neg c]
    exact ⟨_, rfl, by omega, by omega⟩

theorem of_val {k : Nat} (n r : Int) (hk : 0 < k) (h1 : -400000000000 ≤ n) (h2 : n ≤ 400000000000) (h3 : 0 ≤ r) (h4 : r ≤ 10000000) : rate_Of.f k n r = some (Nums.rnd (n * r), true) := by
  obtain ⟨k, rfl⟩ : ∃ m, k = m + 1 := ⟨k - 1, by omega⟩
  have hb := Nums.mul_bd' h1 h2 h3 h4
  have hs : n < 0 → n * r ≤ 0 := fun h => Int.mul_nonpos_of_nonpos_of_nonneg (by omega) h3
  have hs' : 0 ≤ n → 0 ≤ n * r := fun h => Int.mul_nonneg h h3
  have e : wrap64 (wrap64 (2 * n) * r) = 2 * (n * r) := by
    rw [Nums.w64 (n := 2 * n) (by omega) (by omega), Int.mul_assoc, Nums.w64 (by omega) (by omega)]
  unfold rate_Of.f
  rw [if_neg (by omega), if_neg (by omega), if_neg (by omega), decide_eq_false (by omega)]
  simp only [rate_Of.j0]
  rw [if_neg (by decide), e]
  generalize n * r = p at *
  unfold Nums.rnd
  by_cases c : n < 0
  · rw [if_pos c, Nums.w64 (n := 2 * p - 1000000) (by omega) (by omega), Nums.tdiv_neg' (by have := hs c; omega)]
    by_cases z : 0 ≤ p
    · have : p = 0 := by have := hs c; omega
      subst this; decide +kernel
    · rw [if_neg z, Nums.w64 (by omega) (by omega)]
      congr 3; omega
  · have := hs' (by omega)
    rw [if_neg c, Nums.w64 (n := 2 * p + 1000000) (by omega) (by omega), Nums.tdiv_pos (by omega), if_pos this, Nums.w64 (by omega) (by omega)]

theorem of_bad {k : Nat} (n r : Int) (hk : 0 < k) (h : n < -400000000000 ∨ 400000000000 < n ∨ r < 0 ∨ 10000000 < r) : rate_Of.f k n r = some (0, false) := by
  obtain ⟨k, rfl⟩ : ∃ m, k = m + 1 := ⟨k - 1, by omega⟩
  unfold rate_Of.f
  by_cases c1 : n < -400000000000
  · rw [if_pos c1]; simp [rate_Of.j0]
  · rw [if_neg c1]
    by_cases c2 : n > 400000000000
    · rw [if_pos c2]; simp [rate_Of.j0]
    · rw [if_neg c2]
      by_cases c3 : r < 0
      · rw [if_pos c3]; simp [rate_Of.j0]
      · rw [if_neg c3, decide_eq_true (by omega)]; simp [rate_Of.j0]


theorem wakes_val : scutagelaw01_wakes.f 6 = some true := by decide +kernel

theorem RateRounds : scutagelaw01_RateRounds.Pure := by
  intro a0 a1 w0 w1
  refine ⟨9, ?_⟩
  obtain ⟨x, hn, n0, n1⟩ := within a0 800000000001 w0 (by omega) (by omega)
  obtain ⟨r, hr, r0, r1⟩ := within a1 10000001 w1 (by omega) (by omega)
  obtain ⟨n, rfl⟩ : ∃ n, x = n + 400000000000 := ⟨x - 400000000000, by omega⟩
  unfold scutagelaw01_RateRounds.f
  rw [hn, hr]
  have hb := Nums.mul_bd' (a := n) (A := 400000000000) (by omega) (by omega) r0 (show r ≤ 10000000 by omega)
  have hs : n < 0 → n * r ≤ 0 := fun h => Int.mul_nonpos_of_nonpos_of_nonneg (by omega) r0
  have hs' : 0 ≤ n → 0 ≤ n * r := fun h => Int.mul_nonneg h r0
  have hq1 := fun h => Nums.rnd_pos (p := n * r) h
  have hq2 := fun h => Nums.rnd_negs (p := n * r) h
  simp (disch := omega) only [Option.bind_some, Nums.w64, if_pos, if_neg, if_true, if_false, Bool.false_eq_true, reduceIte, Nums.beq_t, Nums.beq_f, Nums.bne_t, Nums.bne_f, Nums.dec_t, Nums.dec_f, Int.add_sub_cancel, of_val, Int.neg_mul, Nums.rnd_neg, Int.neg_neg, scutagelaw01_RateRounds.j0]
  generalize n * r = p at *
  generalize Nums.rnd p = q at *
  have hw := wakes_val
  by_cases c1 : p - q * 1000000 = 500000
  · simp (disch := omega) only [Option.bind_some, Nums.w64, if_pos, if_neg, if_true, if_false, Bool.false_eq_true, reduceIte, Nums.beq_t, Nums.beq_f, Nums.bne_t, Nums.bne_f, Nums.dec_t, Nums.dec_f, scutagelaw01_RateRounds.j1, scutagelaw01_RateRounds.j2, of_val, Nums.rnd_whole, Nums.rnd_zero, hw]
  · by_cases c2 : p - q * 1000000 = -500000
    · simp (disch := omega) only [Option.bind_some, Nums.w64, if_pos, if_neg, if_true, if_false, Bool.false_eq_true, reduceIte, Nums.beq_t, Nums.beq_f, Nums.bne_t, Nums.bne_f, Nums.dec_t, Nums.dec_f, scutagelaw01_RateRounds.j1, scutagelaw01_RateRounds.j2, of_val, Nums.rnd_whole, Nums.rnd_zero, hw]
    · simp (disch := omega) only [Option.bind_some, Nums.w64, if_pos, if_neg, if_true, if_false, Bool.false_eq_true, reduceIte, Nums.beq_t, Nums.beq_f, Nums.bne_t, Nums.bne_f, Nums.dec_t, Nums.dec_f, scutagelaw01_RateRounds.j1, scutagelaw01_RateRounds.j2, of_val, Nums.rnd_whole, Nums.rnd_zero, hw]

end Go.Proofs.Ytalelfjjigfpeaa.Pure
