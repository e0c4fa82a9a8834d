/- Proved: the law TrueupNothing is true of every input: a return that is as the provision leaves nothing; one unit's tax more, one unit more. No condition. -/
import Derived.Test.YtbpagnnfieipcaaPTrueupNothingx1
import Derived.Test.YtbpagnnfieipcaaNums
namespace Go.Proofs.Ytbpagnnfieipcaa.Pure
set_option linter.unusedSimpArgs false
open Go.RowKit Go.Proofs.Ytbpagnnfieipcaa.PTrueupNothing Go.Proofs.YtbpagnnfieipcaaW.PrintWords Go.Proofs.YtbpagnnfieipcaaW.PrintLast Go.Proofs.YtbpagnnfieipcaaW.PrintMore

theorem within (a m : Int) (h : (Lit.int .i64 a).wf = true) (hm : 1 ≤ m) (hm2 : m ≤ 9223372036854775807) : ∃ n, scutagekeep_Within.f a m = some n ∧ 0 ≤ n ∧ n < m := by
  obtain ⟨h1, h2⟩ := Nums.wf64 h
  unfold scutagekeep_Within.f
  rw [if_neg (by omega), if_neg (by omega)]
  have q1 := Int.tmod_lt_of_pos a (show 0 < m by omega)
  have q2 := Int.lt_tmod_of_pos a (show 0 < m by omega)
  by_cases c : Int.tmod a m < 0
  · rw [if_pos c]
    exact ⟨_, rfl, by rw [Nums.w64 (by omega) (by omega)]; omega, by rw [Nums.w64 (by omega) (by omega)]; omega⟩
  · rw [if_neg c]
    exact ⟨_, rfl, by omega, by omega⟩


theorem of_val {k : Nat} (n r : Int) (hk : 0 < k) (h1 : -400000000000 ≤ n) (h2 : n ≤ 400000000000) (h3 : 0 ≤ r) (h4 : r ≤ 10000000) : rate_Of.f k n r = some (Nums.rnd (n * r), true) := by
  obtain ⟨k, rfl⟩ : ∃ m, k = m + 1 := ⟨k - 1, by omega⟩
  have hb := Nums.mul_bd' h1 h2 h3 h4
  have hs : n < 0 → n * r ≤ 0 := fun h => Int.mul_nonpos_of_nonpos_of_nonneg (by omega) h3
  have hs' : 0 ≤ n → 0 ≤ n * r := fun h => Int.mul_nonneg h h3
  have e : wrap64 (wrap64 (2 * n) * r) = 2 * (n * r) := by
    rw [Nums.w64 (n := 2 * n) (by omega) (by omega), Int.mul_assoc, Nums.w64 (by omega) (by omega)]
  unfold rate_Of.f
  rw [if_neg (by omega), if_neg (by omega), if_neg (by omega), decide_eq_false (by omega)]
  simp only [rate_Of.j0]
  rw [if_neg (by decide), e]
  generalize n * r = p at *
  unfold Nums.rnd
  by_cases c : n < 0
  · rw [if_pos c, Nums.w64 (n := 2 * p - 1000000) (by omega) (by omega), Nums.tdiv_neg' (by have := hs c; omega)]
    by_cases z : 0 ≤ p
    · have : p = 0 := by have := hs c; omega
      subst this; decide +kernel
    · rw [if_neg z, Nums.w64 (by omega) (by omega)]
      congr 3; omega
  · have := hs' (by omega)
    rw [if_neg c, Nums.w64 (n := 2 * p + 1000000) (by omega) (by omega), Nums.tdiv_pos (by omega), if_pos this, Nums.w64 (by omega) (by omega)]

theorem of_bad {k : Nat} (n r : Int) (hk : 0 < k) (h : n < -400000000000 ∨ 400000000000 < n ∨ r < 0 ∨ 10000000 < r) : rate_Of.f k n r = some (0, false) := by
  obtain ⟨k, rfl⟩ : ∃ m, k = m + 1 := ⟨k - 1, by omega⟩
  unfold rate_Of.f
  by_cases c1 : n < -400000000000
  · rw [if_pos c1]; simp [rate_Of.j0]
  · rw [if_neg c1]
    by_cases c2 : n > 400000000000
    · rw [if_pos c2]; simp [rate_Of.j0]
    · rw [if_neg c2]
      by_cases c3 : r < 0
      · rw [if_pos c3]; simp [rate_Of.j0]
      · rw [if_neg c3, decide_eq_true (by omega)]; simp [rate_Of.j0]


theorem money_t {a : Int} (h1 : -100000000000 ≤ a) (h2 : a ≤ 100000000000) : rate_Money.f a = some true := by
  unfold rate_Money.f; rw [if_pos (by omega), decide_eq_true (by omega)]

theorem money_f {a : Int} (h : a < -100000000000 ∨ 100000000000 < a) : rate_Money.f a = some false := by
  unfold rate_Money.f
  by_cases c : a ≥ -100000000000
  · rw [if_pos c, decide_eq_false (by omega)]
  · rw [if_neg c]


theorem right_t {a : Int} (h1 : 0 ≤ a) (h2 : a ≤ 1000000) : rate_Right.f a = some true := by
  unfold rate_Right.f; rw [if_pos (by omega), decide_eq_true (by omega)]

theorem right_f {a : Int} (h : a < 0 ∨ 1000000 < a) : rate_Right.f a = some false := by
  unfold rate_Right.f
  by_cases c : a ≥ 0
  · rw [if_pos c, decide_eq_false (by omega)]
  · rw [if_neg c]


theorem true_ok {k : Nat} {n r p : Int} (hk : 1 < k) (h1 : 0 ≤ n) (h2 : n ≤ 100000000000) (h3 : 0 ≤ r) (h4 : r ≤ 1000000) (h5 : -100000000000 ≤ p) (h6 : p ≤ 100000000000) :
    trueup_Of.f k n r p = (rate_Money.f (Nums.rnd (n * r) - p)).bind fun t => if t = true then some (Nums.rnd (n * r) - p, 0) else some (0, 6) := by
  obtain ⟨k, rfl⟩ : ∃ m, k = m + 1 := ⟨k - 1, by omega⟩
  have hb := Nums.rnd_bd h1 h3 h4
  unfold trueup_Of.f
  rw [if_neg (by omega), money_t (a := n) (by omega) h2, right_t h3 h4, money_t h5 h6]
  simp only [Option.bind_some, if_true, trueup_Of.j0, Bool.not_true]
  rw [if_neg (by decide), of_val n r (by omega) (by omega) (by omega) h3 (by omega)]
  simp only [Option.bind_some]
  rw [Nums.w64 (by omega) (by omega)]

theorem true_val {k : Nat} {n r p : Int} (hk : 1 < k) (h1 : 0 ≤ n) (h2 : n ≤ 100000000000) (h3 : 0 ≤ r) (h4 : r ≤ 1000000) (h5 : -100000000000 ≤ p) (h6 : p ≤ 100000000000) (h7 : Nums.rnd (n * r) - p ≤ 100000000000) :
    trueup_Of.f k n r p = some (Nums.rnd (n * r) - p, 0) := by
  have hb := Nums.rnd_bd h1 h3 h4
  rw [true_ok hk h1 h2 h3 h4 h5 h6, money_t (by omega) (by omega)]; rfl

theorem true_over {k : Nat} {n r p : Int} (hk : 1 < k) (h1 : 0 ≤ n) (h2 : n ≤ 100000000000) (h3 : 0 ≤ r) (h4 : r ≤ 1000000) (h5 : -100000000000 ≤ p) (h6 : p ≤ 100000000000) (h7 : 100000000000 < Nums.rnd (n * r) - p) :
    trueup_Of.f k n r p = some (0, 6) := by
  rw [true_ok hk h1 h2 h3 h4 h5 h6, money_f (by omega)]; rfl

theorem true_bad {k : Nat} {n r p : Int} (hk : 0 < k) (h : n < 0 ∨ 100000000000 < n ∨ r < 0 ∨ 1000000 < r ∨ p < -100000000000 ∨ 100000000000 < p) : trueup_Of.f k n r p = some (0, 1) := by
  obtain ⟨k, rfl⟩ : ∃ m, k = m + 1 := ⟨k - 1, by omega⟩
  unfold trueup_Of.f
  by_cases c1 : n < 0
  · rw [if_pos c1]; simp [trueup_Of.j0]
  · rw [if_neg c1]
    by_cases c2 : 100000000000 < n
    · rw [money_f (a := n) (by omega)]; simp [trueup_Of.j0]
    · rw [money_t (a := n) (by omega) (by omega)]
      simp only [Option.bind_some, if_true]
      by_cases c3 : r < 0 ∨ 1000000 < r
      · rw [right_f c3]; simp [trueup_Of.j0]
      · rw [right_t (by omega) (by omega), money_f (by omega)]; simp [trueup_Of.j0]


theorem wakes_val : scutagelaw22_wakes.f 9 = some true := by decide +kernel

set_option maxHeartbeats 2000000 in
theorem TrueupNothing : scutagelaw22_TrueupNothing.Pure := by
  intro a0 a1 a2 w0 w1 w2
  refine ⟨9, ?_⟩
  obtain ⟨n, hn, n0, n1⟩ := within a0 100000000000 w0 (by omega) (by omega)
  obtain ⟨r, hr, r0, r1⟩ := within a1 1000001 w1 (by omega) (by omega)
  obtain ⟨m, hm, m0, m1⟩ := within a2 1000 w2 (by omega) (by omega)
  unfold scutagelaw22_TrueupNothing.f
  rw [hn, hr, hm]
  have hw := wakes_val
  have h1 := Nums.rnd_bd n0 r0 (show r ≤ 1000000 by omega)
  simp only [Option.bind_some]
  rw [true_val (p := 0) (by decide) n0 (by omega) r0 (by omega) (by omega) (by omega) (by omega)]
  simp only [Option.bind_some, Int.sub_zero]
  rw [true_val (by decide) n0 (by omega) r0 (by omega) (by omega) (by omega) (by omega), Nums.w64 (n := Nums.rnd (n * r) - m) (by omega) (by omega),
    true_val (p := Nums.rnd (n * r) - m) (by decide) n0 (by omega) r0 (by omega) (by omega) (by omega) (by omega)]
  generalize Nums.rnd (n * r) = q at *
  simp (disch := omega) only [Option.bind_some, Nums.w64, if_pos, if_neg, if_true, if_false, Bool.false_eq_true, reduceIte, Nums.beq_t, Nums.beq_f, Nums.bne_t, Nums.bne_f, Nums.dec_t, Nums.dec_f, hw]

end Go.Proofs.Ytbpagnnfieipcaa.Pure
