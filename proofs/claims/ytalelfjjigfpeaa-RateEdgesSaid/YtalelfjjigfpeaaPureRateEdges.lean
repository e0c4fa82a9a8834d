/- Proved: the law RateEdges is true of every input: amounts and rates may be up to each bound, and no further. No condition. -/
import Derived.Test.YtalelfjjigfpeaaPRateEdgesx1
import Derived.Test.YtalelfjjigfpeaaNums
namespace Go.Proofs.Ytalelfjjigfpeaa.Pure
set_option linter.unusedSimpArgs false
open Go.RowKit Go.Proofs.Ytalelfjjigfpeaa.PRateEdges Go.Proofs.YtalelfjjigfpeaaW.PrintWords Go.Proofs.YtalelfjjigfpeaaW.PrintLast Go.Proofs.YtalelfjjigfpeaaW.PrintMore

theorem within (a m : Int) (h : (Lit.int .i64 a).wf = true) (hm : 1 ≤ m) (hm2 : m ≤ 9223372036854775807) : ∃ n, scutagekeep_Within.f a m = some n ∧ 0 ≤ n ∧ n < m := by
  obtain ⟨h1, h2⟩ := Nums.wf64 h
  unfold scutagekeep_Within.f
  rw [if_neg (by omega), if_neg (by omega)]
  have q1 := Int.tmod_lt_of_pos a (show 0 < m by omega)
  have q2 := Int.lt_tmod_of_pos a (show 0 < m by omega)
  by_cases c : Int.tmod a m < 0
  · rw [if_pos c]
    exact ⟨_, rfl, by rw [Nums.w64 (by omega) (by omega)]; omega, by rw [Nums.w64 (by omega) (by omega)]; omega⟩
  · rw [if_neg c]
    exact ⟨_, rfl, by omega, by omega⟩


theorem of_val {k : Nat} (n r : Int) (hk : 0 < k) (h1 : -400000000000 ≤ n) (h2 : n ≤ 400000000000) (h3 : 0 ≤ r) (h4 : r ≤ 10000000) : rate_Of.f k n r = some (Nums.rnd (n * r), true) := by
  obtain ⟨k, rfl⟩ : ∃ m, k = m + 1 := ⟨k - 1, by omega⟩
  have hb := Nums.mul_bd' h1 h2 h3 h4
  have hs : n < 0 → n * r ≤ 0 := fun h => Int.mul_nonpos_of_nonpos_of_nonneg (by omega) h3
  have hs' : 0 ≤ n → 0 ≤ n * r := fun h => Int.mul_nonneg h h3
  have e : wrap64 (wrap64 (2 * n) * r) = 2 * (n * r) := by
    rw [Nums.w64 (n := 2 * n) (by omega) (by omega), Int.mul_assoc, Nums.w64 (by omega) (by omega)]
  unfold rate_Of.f
  rw [if_neg (by omega), if_neg (by omega), if_neg (by omega), decide_eq_false (by omega)]
  simp only [rate_Of.j0]
  rw [if_neg (by decide), e]
  generalize n * r = p at *
  unfold Nums.rnd
  by_cases c : n < 0
  · rw [if_pos c, Nums.w64 (n := 2 * p - 1000000) (by omega) (by omega), Nums.tdiv_neg' (by have := hs c; omega)]
    by_cases z : 0 ≤ p
    · have : p = 0 := by have := hs c; omega
      subst this; decide +kernel
    · rw [if_neg z, Nums.w64 (by omega) (by omega)]
      congr 3; omega
  · have := hs' (by omega)
    rw [if_neg c, Nums.w64 (n := 2 * p + 1000000) (by omega) (by omega), Nums.tdiv_pos (by omega), if_pos this, Nums.w64 (by omega) (by omega)]

theorem of_bad {k : Nat} (n r : Int) (hk : 0 < k) (h : n < -400000000000 ∨ 400000000000 < n ∨ r < 0 ∨ 10000000 < r) : rate_Of.f k n r = some (0, false) := by
  obtain ⟨k, rfl⟩ : ∃ m, k = m + 1 := ⟨k - 1, by omega⟩
  unfold rate_Of.f
  by_cases c1 : n < -400000000000
  · rw [if_pos c1]; simp [rate_Of.j0]
  · rw [if_neg c1]
    by_cases c2 : n > 400000000000
    · rw [if_pos c2]; simp [rate_Of.j0]
    · rw [if_neg c2]
      by_cases c3 : r < 0
      · rw [if_pos c3]; simp [rate_Of.j0]
      · rw [if_neg c3, decide_eq_true (by omega)]; simp [rate_Of.j0]


theorem money_t {a : Int} (h1 : -100000000000 ≤ a) (h2 : a ≤ 100000000000) : rate_Money.f a = some true := by
  unfold rate_Money.f; rw [if_pos (by omega), decide_eq_true (by omega)]

theorem money_f {a : Int} (h : a < -100000000000 ∨ 100000000000 < a) : rate_Money.f a = some false := by
  unfold rate_Money.f
  by_cases c : a ≥ -100000000000
  · rw [if_pos c, decide_eq_false (by omega)]
  · rw [if_neg c]


theorem right_t {a : Int} (h1 : 0 ≤ a) (h2 : a ≤ 1000000) : rate_Right.f a = some true := by
  unfold rate_Right.f; rw [if_pos (by omega), decide_eq_true (by omega)]

theorem right_f {a : Int} (h : a < 0 ∨ 1000000 < a) : rate_Right.f a = some false := by
  unfold rate_Right.f
  by_cases c : a ≥ 0
  · rw [if_pos c, decide_eq_false (by omega)]
  · rw [if_neg c]


theorem floor_val {n r : Int} (h1 : 0 ≤ n) (h2 : n ≤ 100000000000) (h3 : 0 ≤ r) (h4 : r ≤ 1000000) : rate_Floor.f n r = some (n * r / 1000000, true) := by
  have hb := Nums.mul_bd h1 h2 h3 h4
  unfold rate_Floor.f
  rw [money_t (by omega) (by omega), right_t h3 h4]
  simp (disch := omega) only [Option.bind_some, Nums.w64, if_pos, if_neg, if_true, if_false, Bool.false_eq_true, reduceIte, Nums.beq_t, Nums.beq_f, Nums.bne_t, Nums.bne_f, Nums.dec_t, Nums.dec_f]
  generalize n * r = p at *
  rw [Nums.tdiv_pos (by omega), Nums.w64 (by omega) (by omega)]

theorem floor_bad {n r : Int} (h : n < 0 ∨ 100000000000 < n ∨ r < 0 ∨ 1000000 < r) : rate_Floor.f n r = some (0, false) := by
  unfold rate_Floor.f
  by_cases c1 : n < -100000000000 ∨ 100000000000 < n
  · rw [money_f c1]; simp
  · rw [money_t (by omega) (by omega)]
    simp only [Option.bind_some, if_true]
    by_cases c2 : n < 0
    · rw [if_pos c2]
    · rw [if_neg c2, right_f (by omega)]; simp


theorem wakes_val : scutagelaw01_wakes.f 9 = some true := by decide +kernel

set_option maxHeartbeats 8000000 in
theorem RateEdges : scutagelaw01_RateEdges.Pure := by
  intro a0 a1 w0 w1
  refine ⟨9, ?_⟩
  obtain ⟨n, hn, n0, n1⟩ := within a0 1000 w0 (by omega) (by omega)
  obtain ⟨r, hr, r0, r1⟩ := within a1 1000001 w1 (by omega) (by omega)
  unfold scutagelaw01_RateEdges.f
  rw [hn, hr]
  have hw := wakes_val
  simp only [Option.bind_some]
  rw [Nums.w64 (n := 400000000001 + n) (by omega) (by omega), Nums.w64 (n := -400000000001 - n) (by omega) (by omega), Nums.w64 (n := -1 - r) (by omega) (by omega), Nums.w64 (n := 100000 * r) (by omega) (by omega),
    of_val 400000000000 r (by decide) (by omega) (by omega) (by omega) (by omega), of_bad (400000000001 + n) r (by decide) (by omega), of_bad (-400000000001 - n) r (by decide) (by omega), of_val n 10000000 (by decide) (by omega) (by omega) (by omega) (by omega),
    of_bad n 10000001 (by decide) (by omega), of_bad n (-1 - r) (by decide) (by omega), floor_val (n := 100000000000) (r := r) (by omega) (by omega) (by omega) (by omega), floor_bad (n := 100000000001) (r := r) (by omega)]
  simp only [Option.bind_some]
  rw [if_pos trivial, if_neg (by decide), if_neg (by decide), if_pos trivial, if_neg (by decide), if_neg (by decide), if_pos trivial, if_pos (show 100000000000 * r / 1000000 = 100000 * r by omega), if_neg (by decide), money_t (a := 100000000000) (by omega) (by omega)]
  simp only [Option.bind_some]
  rw [if_pos trivial, money_t (a := -100000000000) (by omega) (by omega)]
  simp only [Option.bind_some]
  rw [if_pos trivial, money_f (a := 100000000001) (by omega)]
  simp only [Option.bind_some]
  rw [if_neg (by decide), money_f (a := -100000000001) (by omega)]
  simp only [Option.bind_some]
  rw [if_neg (by decide), right_t (a := 0) (by omega) (by omega)]
  simp only [Option.bind_some]
  rw [if_pos trivial, right_t (a := 1000000) (by omega) (by omega)]
  simp only [Option.bind_some]
  rw [if_pos trivial, right_f (a := -1) (by omega)]
  simp only [Option.bind_some]
  rw [if_neg (by decide), right_f (a := 1000001) (by omega)]
  simp only [Option.bind_some]
  rw [if_neg (by decide), hw]
  rfl

end Go.Proofs.Ytalelfjjigfpeaa.Pure
