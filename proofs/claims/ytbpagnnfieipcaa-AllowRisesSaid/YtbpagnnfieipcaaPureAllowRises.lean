/- Proved: the law AllowRises is true of every input: of a greater asset, or at a greater rate, no less is taken off. No condition. -/
import Derived.Test.YtbpagnnfieipcaaQAllowRisesx1
import Derived.Test.YtbpagnnfieipcaaNums
namespace Go.Proofs.Ytbpagnnfieipcaa.Pure
set_option linter.unusedSimpArgs false
open Go.RowKit Go.Proofs.Ytbpagnnfieipcaa.PAllowRises Go.Proofs.YtbpagnnfieipcaaW.PrintWords Go.Proofs.YtbpagnnfieipcaaW.PrintLast Go.Proofs.YtbpagnnfieipcaaW.PrintMore

theorem within (a m : Int) (h : (Lit.int .i64 a).wf = true) (hm : 1 ≤ m) (hm2 : m ≤ 9223372036854775807) : ∃ n, scutagekeep_Within.f a m = some n ∧ 0 ≤ n ∧ n < m := by
  obtain ⟨h1, h2⟩ := Nums.wf64 h
  unfold scutagekeep_Within.f
  rw [if_neg (by omega), if_neg (by omega)]
  have q1 := Int.tmod_lt_of_pos a (show 0 < m by omega)
  have q2 := Int.lt_tmod_of_pos a (show 0 < m by omega)
  by_cases c : Int.tmod a m < 0
  · rw [if_pos c]
    exact ⟨_, rfl, by rw [Nums.w64 (by omega) (by omega)]; omega, by rw [Nums.w64 (by omega) (by omega)]; omega⟩
  · rw [if_neg c]
    exact ⟨_, rfl, by omega, by omega⟩


theorem of_val {k : Nat} (n r : Int) (hk : 0 < k) (h1 : -400000000000 ≤ n) (h2 : n ≤ 400000000000) (h3 : 0 ≤ r) (h4 : r ≤ 10000000) : rate_Of.f k n r = some (Nums.rnd (n * r), true) := by
  obtain ⟨k, rfl⟩ : ∃ m, k = m + 1 := ⟨k - 1, by omega⟩
  have hb := Nums.mul_bd' h1 h2 h3 h4
  have hs : n < 0 → n * r ≤ 0 := fun h => Int.mul_nonpos_of_nonpos_of_nonneg (by omega) h3
  have hs' : 0 ≤ n → 0 ≤ n * r := fun h => Int.mul_nonneg h h3
  have e : wrap64 (wrap64 (2 * n) * r) = 2 * (n * r) := by
    rw [Nums.w64 (n := 2 * n) (by omega) (by omega), Int.mul_assoc, Nums.w64 (by omega) (by omega)]
  unfold rate_Of.f
  rw [if_neg (by omega), if_neg (by omega), if_neg (by omega), decide_eq_false (by omega)]
  simp only [rate_Of.j0]
  rw [if_neg (by decide), e]
  generalize n * r = p at *
  unfold Nums.rnd
  by_cases c : n < 0
  · rw [if_pos c, Nums.w64 (n := 2 * p - 1000000) (by omega) (by omega), Nums.tdiv_neg' (by have := hs c; omega)]
    by_cases z : 0 ≤ p
    · have : p = 0 := by have := hs c; omega
      subst this; decide +kernel
    · rw [if_neg z, Nums.w64 (by omega) (by omega)]
      congr 3; omega
  · have := hs' (by omega)
    rw [if_neg c, Nums.w64 (n := 2 * p + 1000000) (by omega) (by omega), Nums.tdiv_pos (by omega), if_pos this, Nums.w64 (by omega) (by omega)]

theorem of_bad {k : Nat} (n r : Int) (hk : 0 < k) (h : n < -400000000000 ∨ 400000000000 < n ∨ r < 0 ∨ 10000000 < r) : rate_Of.f k n r = some (0, false) := by
  obtain ⟨k, rfl⟩ : ∃ m, k = m + 1 := ⟨k - 1, by omega⟩
  unfold rate_Of.f
  by_cases c1 : n < -400000000000
  · rw [if_pos c1]; simp [rate_Of.j0]
  · rw [if_neg c1]
    by_cases c2 : n > 400000000000
    · rw [if_pos c2]; simp [rate_Of.j0]
    · rw [if_neg c2]
      by_cases c3 : r < 0
      · rw [if_pos c3]; simp [rate_Of.j0]
      · rw [if_neg c3, decide_eq_true (by omega)]; simp [rate_Of.j0]


theorem money_t {a : Int} (h1 : -100000000000 ≤ a) (h2 : a ≤ 100000000000) : rate_Money.f a = some true := by
  unfold rate_Money.f; rw [if_pos (by omega), decide_eq_true (by omega)]

theorem money_f {a : Int} (h : a < -100000000000 ∨ 100000000000 < a) : rate_Money.f a = some false := by
  unfold rate_Money.f
  by_cases c : a ≥ -100000000000
  · rw [if_pos c, decide_eq_false (by omega)]
  · rw [if_neg c]


theorem right_t {a : Int} (h1 : 0 ≤ a) (h2 : a ≤ 1000000) : rate_Right.f a = some true := by
  unfold rate_Right.f; rw [if_pos (by omega), decide_eq_true (by omega)]

theorem right_f {a : Int} (h : a < 0 ∨ 1000000 < a) : rate_Right.f a = some false := by
  unfold rate_Right.f
  by_cases c : a ≥ 0
  · rw [if_pos c, decide_eq_false (by omega)]
  · rw [if_neg c]


theorem allow_val {k : Nat} {n r : Int} (hk : 0 < k) (h1 : 0 ≤ n) (h2 : n ≤ 100000000000) (h3 : 0 ≤ r) (h4 : r ≤ 1000000) : allow_Of.f k n r = some (-Nums.rnd (n * r), 0) := by
  have hb := Nums.rnd_bd h1 h3 h4
  unfold allow_Of.f
  rw [if_neg (by omega), money_t (by omega) h2, right_t h3 h4, of_val n r hk (by omega) (by omega) h3 (by omega)]
  simp only [Option.bind_some, if_true]
  rw [Nums.w64 (by omega) (by omega)]

theorem allow_bad {k : Nat} {n r : Int} (h : n < 0 ∨ 100000000000 < n ∨ r < 0 ∨ 1000000 < r) : allow_Of.f k n r = some (0, 1) := by
  unfold allow_Of.f
  by_cases c1 : n < 0
  · rw [if_pos c1]
  · rw [if_neg c1]
    by_cases c2 : 100000000000 < n
    · rw [money_f (by omega)]; simp
    · rw [money_t (by omega) (by omega), right_f (by omega)]; simp

theorem change_val (a b : Int) (h1 : -9223372036854775808 ≤ a - b) (h2 : a - b ≤ 9223372036854775807) : allow_Change.f a b = some (a - b) := by
  unfold allow_Change.f; rw [Nums.w64 h1 h2]


theorem wakes_val : scutagelaw18_wakes.f 9 = some true := by decide +kernel

set_option maxHeartbeats 2000000 in
theorem AllowRises : scutagelaw18_AllowRises.Pure := by
  intro a0 a1 a2 a3 w0 w1 w2 w3
  refine ⟨9, ?_⟩
  obtain ⟨n, hn, n0, n1⟩ := within a0 50000000000 w0 (by omega) (by omega)
  obtain ⟨m, hm, m0, m1⟩ := within a1 100000 w1 (by omega) (by omega)
  obtain ⟨r, hr, r0, r1⟩ := within a2 500001 w2 (by omega) (by omega)
  obtain ⟨s, hs, s0, s1⟩ := within a3 500000 w3 (by omega) (by omega)
  unfold scutagelaw18_AllowRises.f
  rw [hn, hm, hr, hs]
  have hw := wakes_val
  simp only [Option.bind_some]
  rw [Nums.w64 (n := n + m) (by omega) (by omega), Nums.w64 (n := r + s) (by omega) (by omega),
    allow_val (by decide) n0 (by omega) r0 (by omega), allow_val (n := n + m) (by decide) (by omega) (by omega) r0 (by omega), allow_val (by decide) n0 (by omega) (show 0 ≤ r + s by omega) (by omega)]
  have h1 := Nums.rnd_bd n0 r0 (show r ≤ 1000000 by omega)
  have h2 := Nums.rnd_bd (show 0 ≤ n + m by omega) r0 (show r ≤ 1000000 by omega)
  have h3 := Nums.rnd_bd n0 (show 0 ≤ r + s by omega) (show r + s ≤ 1000000 by omega)
  have p1 : 0 ≤ n * r := Int.mul_nonneg n0 r0
  have p2 : 0 ≤ m * r := Int.mul_nonneg m0 r0
  have p3 : 0 ≤ n * s := Int.mul_nonneg n0 s0
  have p4 : m * r ≤ m * 1000000 := Int.mul_le_mul_of_nonneg_left (by omega) m0
  rw [Int.add_mul] at h2
  rw [Int.mul_add] at h3
  rw [Int.add_mul, Int.mul_add]
  have h4 := Nums.rnd_pos p1
  have h5 := Nums.rnd_pos (p := n * r + m * r) (by omega)
  have h6 := Nums.rnd_pos (p := n * r + n * s) (by omega)
  generalize n * r = x at *
  generalize m * r = y at *
  generalize n * s = z at *
  generalize Nums.rnd x = u at *
  generalize Nums.rnd (x + y) = v at *
  generalize Nums.rnd (x + z) = w at *
  simp (disch := omega) only [Option.bind_some, Nums.w64, if_pos, if_neg, if_true, if_false, Bool.false_eq_true, reduceIte, Nums.beq_t, Nums.beq_f, Nums.bne_t, Nums.bne_f, Nums.dec_t, Nums.dec_f, change_val, hw]

end Go.Proofs.Ytbpagnnfieipcaa.Pure
