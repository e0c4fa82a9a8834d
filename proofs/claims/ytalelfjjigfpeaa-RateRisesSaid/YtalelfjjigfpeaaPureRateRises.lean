/- Proved: the law RateRises is true of every input: of more, or at a greater rate, the part is no less, and parts of parts are near the part of both. No condition. -/
import Derived.Test.YtalelfjjigfpeaaPRateRisesx1
import Derived.Test.YtalelfjjigfpeaaNums
namespace Go.Proofs.Ytalelfjjigfpeaa.Pure
open Go.RowKit Go.Proofs.Ytalelfjjigfpeaa.PRateRises Go.Proofs.YtalelfjjigfpeaaW.PrintWords Go.Proofs.YtalelfjjigfpeaaW.PrintLast Go.Proofs.YtalelfjjigfpeaaW.PrintMore

/- rate.Of, scutagekeep.Within as printed for one law: what they answer. -/
theorem within (a m : Int) (h : (Lit.int .i64 a).wf = true) (hm : 1 ≤ m) (hm2 : m ≤ 9223372036854775807) : ∃ n, scutagekeep_Within.f a m = some n ∧ 0 ≤ n ∧ n < m := by
  obtain ⟨h1, h2⟩ := Nums.wf64 h
  unfold scutagekeep_Within.f
  rw [if_neg (by omega), if_neg (by omega)]
  have q1 := Int.tmod_lt_of_pos a (show 0 < m by omega)
  have q2 := Int.lt_tmod_of_pos a (show 0 < m by omega)
  by_cases c : Int.tmod a m < 0
  · rw [if_pos c]
    exact ⟨_, rfl, by rw [Nums.w64 (by omega) (by omega)]; omega, by rw [Nums.w64 (by omega) (by omega)]; omega⟩
  · rw [if_neg c]
    exact ⟨_, rfl, by omega, by omega⟩

theorem of_val {k : Nat} (n r : Int) (hk : 0 < k) (h1 : -400000000000 ≤ n) (h2 : n ≤ 400000000000) (h3 : 0 ≤ r) (h4 : r ≤ 10000000) : rate_Of.f k n r = some (Nums.rnd (n * r), true) := by
  obtain ⟨k, rfl⟩ : ∃ m, k = m + 1 := ⟨k - 1, by omega⟩
  have hb := Nums.mul_bd' h1 h2 h3 h4
  have hs : n < 0 → n * r ≤ 0 := fun h => Int.mul_nonpos_of_nonpos_of_nonneg (by omega) h3
  have hs' : 0 ≤ n → 0 ≤ n * r := fun h => Int.mul_nonneg h h3
  have e : wrap64 (wrap64 (2 * n) * r) = 2 * (n * r) := by
    rw [Nums.w64 (n := 2 * n) (by omega) (by omega), Int.mul_assoc, Nums.w64 (by omega) (by omega)]
  unfold rate_Of.f
  rw [if_neg (by omega), if_neg (by omega), if_neg (by omega), decide_eq_false (by omega)]
  simp only [rate_Of.j0]
  rw [if_neg (by decide), e]
  generalize n * r = p at *
  unfold Nums.rnd
  by_cases c : n < 0
  · rw [if_pos c, Nums.w64 (n := 2 * p - 1000000) (by omega) (by omega), Nums.tdiv_neg' (by have := hs c; omega)]
    by_cases z : 0 ≤ p
    · have : p = 0 := by have := hs c; omega
      subst this; decide +kernel
    · rw [if_neg z, Nums.w64 (by omega) (by omega)]
      congr 3; omega
  · have := hs' (by omega)
    rw [if_neg c, Nums.w64 (n := 2 * p + 1000000) (by omega) (by omega), Nums.tdiv_pos (by omega), if_pos this, Nums.w64 (by omega) (by omega)]

theorem of_bad {k : Nat} (n r : Int) (hk : 0 < k) (h : n < -400000000000 ∨ 400000000000 < n ∨ r < 0 ∨ 10000000 < r) : rate_Of.f k n r = some (0, false) := by
  obtain ⟨k, rfl⟩ : ∃ m, k = m + 1 := ⟨k - 1, by omega⟩
  unfold rate_Of.f
  by_cases c1 : n < -400000000000
  · rw [if_pos c1]; simp [rate_Of.j0]
  · rw [if_neg c1]
    by_cases c2 : n > 400000000000
    · rw [if_pos c2]; simp [rate_Of.j0]
    · rw [if_neg c2]
      by_cases c3 : r < 0
      · rw [if_pos c3]; simp [rate_Of.j0]
      · rw [if_neg c3, decide_eq_true (by omega)]; simp [rate_Of.j0]


theorem wakes_val : scutagelaw01_wakes.f 1 = some true := by decide +kernel

theorem RateRises : scutagelaw01_RateRises.Pure := by
  intro a0 a1 a2 a3 w0 w1 w2 w3
  refine ⟨1, ?_⟩
  obtain ⟨n, hn, n0, n1⟩ := within a0 100000000000 w0 (by omega) (by omega)
  obtain ⟨m, hm, m0, m1⟩ := within a1 1000 w1 (by omega) (by omega)
  obtain ⟨r, hr, r0, r1⟩ := within a2 1000000 w2 (by omega) (by omega)
  obtain ⟨s, hs, s0, s1⟩ := within a3 1000000 w3 (by omega) (by omega)
  have e1 : wrap64 (n + m) = n + m := Nums.w64 (by omega) (by omega)
  have e2 : wrap64 (r + s) = r + s := Nums.w64 (by omega) (by omega)
  have hc : ∃ c, mn (r + s) 1000000 = c ∧ r ≤ c ∧ c ≤ 1000000 := ⟨_, rfl, by unfold mn; split <;> omega, by unfold mn; split <;> omega⟩
  obtain ⟨c, ec, c0, c1⟩ := hc
  unfold scutagelaw01_RateRises.f
  rw [hn, hm, hr, hs]
  simp only [Option.bind_some, e1, e2, ec]
  rw [of_val n r (by decide) (by omega) (by omega) (by omega) (by omega), of_val (n + m) r (by decide) (by omega) (by omega) (by omega) (by omega), of_val n c (by decide) (by omega) (by omega) (by omega) (by omega),
    of_val n s (by decide) (by omega) (by omega) (by omega) (by omega), of_val n (r + s) (by decide) (by omega) (by omega) (by omega) (by omega), wakes_val]
  simp only [Option.bind_some, if_true]
  have b1 := Nums.mul_bd n0 (show n ≤ 100000000000 by omega) r0 (show r ≤ 1000000 by omega)
  have b2 := Nums.mul_bd m0 (show m ≤ 1000 by omega) r0 (show r ≤ 1000000 by omega)
  have b3 := Nums.mul_bd n0 (show n ≤ 100000000000 by omega) s0 (show s ≤ 1000000 by omega)
  have b4 := Int.mul_le_mul_of_nonneg_left c0 n0
  have b5 := Nums.mul_bd n0 (show n ≤ 100000000000 by omega) (show 0 ≤ c by omega) c1
  have b6 : m * r ≤ m * 1000000 := Int.mul_le_mul_of_nonneg_left (by omega) m0
  rw [Int.add_mul, Int.mul_add]
  have d1 : (n * r : Int) = n * r := rfl
  generalize n * r = p1 at *
  generalize m * r = p2 at *
  generalize n * s = p3 at *
  generalize n * c = p4 at *
  unfold Nums.rnd
  rw [if_pos (show 0 ≤ p1 by omega), if_pos (show 0 ≤ p1 + p2 by omega), if_pos (show 0 ≤ p4 by omega), if_pos (show 0 ≤ p3 by omega), if_pos (show 0 ≤ p1 + p3 by omega)]
  rw [Nums.w64 (n := (2 * (p1 + p2) + 1000000) / 2000000 - (2 * p1 + 1000000) / 2000000) (by omega) (by omega),
    Nums.w64 (n := (2 * (p1 + p3) + 1000000) / 2000000 - (2 * p1 + 1000000) / 2000000) (by omega) (by omega),
    Nums.w64 (n := (2 * (p1 + p3) + 1000000) / 2000000 - (2 * p1 + 1000000) / 2000000 - (2 * p3 + 1000000) / 2000000) (by omega) (by omega)]
  rw [if_pos (by omega), if_pos (by omega), if_pos (by omega), if_pos (by omega), if_pos (by omega)]

end Go.Proofs.Ytalelfjjigfpeaa.Pure
