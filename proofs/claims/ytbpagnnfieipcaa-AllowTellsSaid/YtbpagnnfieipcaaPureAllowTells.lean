/- Proved: the law AllowTells is true of every input: the allowance of any asset at any rate, and its cost, are the document's. No condition. -/
import Derived.Test.YtbpagnnfieipcaaPAllowTellsx2
import Derived.Test.YtbpagnnfieipcaaNums
namespace Go.Proofs.Ytbpagnnfieipcaa.Pure
set_option linter.unusedSimpArgs false
open Go.RowKit Go.Proofs.Ytbpagnnfieipcaa.PAllowTells Go.Proofs.YtbpagnnfieipcaaW.PrintWords Go.Proofs.YtbpagnnfieipcaaW.PrintLast Go.Proofs.YtbpagnnfieipcaaW.PrintMore

theorem within (a m : Int) (h : (Lit.int .i64 a).wf = true) (hm : 1 ≤ m) (hm2 : m ≤ 9223372036854775807) : ∃ n, scutagekeep_Within.f a m = some n ∧ 0 ≤ n ∧ n < m := by
  obtain ⟨h1, h2⟩ := Nums.wf64 h
  unfold scutagekeep_Within.f
  rw [if_neg (by omega), if_neg (by omega)]
  have q1 := Int.tmod_lt_of_pos a (show 0 < m by omega)
  have q2 := Int.lt_tmod_of_pos a (show 0 < m by omega)
  by_cases c : Int.tmod a m < 0
  · rw [if_pos c]
    exact ⟨_, rfl, by rw [Nums.w64 (by omega) (by omega)]; omega, by rw [Nums.w64 (by omega) (by omega)]; omega⟩
  · rw [if_neg c]
    exact ⟨_, rfl, by omega, by omega⟩


theorem of_val {k : Nat} (n r : Int) (hk : 0 < k) (h1 : -400000000000 ≤ n) (h2 : n ≤ 400000000000) (h3 : 0 ≤ r) (h4 : r ≤ 10000000) : rate_Of.f k n r = some (Nums.rnd (n * r), true) := by
  obtain ⟨k, rfl⟩ : ∃ m, k = m + 1 := ⟨k - 1, by omega⟩
  have hb := Nums.mul_bd' h1 h2 h3 h4
  have hs : n < 0 → n * r ≤ 0 := fun h => Int.mul_nonpos_of_nonpos_of_nonneg (by omega) h3
  have hs' : 0 ≤ n → 0 ≤ n * r := fun h => Int.mul_nonneg h h3
  have e : wrap64 (wrap64 (2 * n) * r) = 2 * (n * r) := by
    rw [Nums.w64 (n := 2 * n) (by omega) (by omega), Int.mul_assoc, Nums.w64 (by omega) (by omega)]
  unfold rate_Of.f
  rw [if_neg (by omega), if_neg (by omega), if_neg (by omega), decide_eq_false (by omega)]
  simp only [rate_Of.j0]
  rw [if_neg (by decide), e]
  generalize n * r = p at *
  unfold Nums.rnd
  by_cases c : n < 0
  · rw [if_pos c, Nums.w64 (n := 2 * p - 1000000) (by omega) (by omega), Nums.tdiv_neg' (by have := hs c; omega)]
    by_cases z : 0 ≤ p
    · have : p = 0 := by have := hs c; omega
      subst this; decide +kernel
    · rw [if_neg z, Nums.w64 (by omega) (by omega)]
      congr 3; omega
  · have := hs' (by omega)
    rw [if_neg c, Nums.w64 (n := 2 * p + 1000000) (by omega) (by omega), Nums.tdiv_pos (by omega), if_pos this, Nums.w64 (by omega) (by omega)]

theorem of_bad {k : Nat} (n r : Int) (hk : 0 < k) (h : n < -400000000000 ∨ 400000000000 < n ∨ r < 0 ∨ 10000000 < r) : rate_Of.f k n r = some (0, false) := by
  obtain ⟨k, rfl⟩ : ∃ m, k = m + 1 := ⟨k - 1, by omega⟩
  unfold rate_Of.f
  by_cases c1 : n < -400000000000
  · rw [if_pos c1]; simp [rate_Of.j0]
  · rw [if_neg c1]
    by_cases c2 : n > 400000000000
    · rw [if_pos c2]; simp [rate_Of.j0]
    · rw [if_neg c2]
      by_cases c3 : r < 0
      · rw [if_pos c3]; simp [rate_Of.j0]
      · rw [if_neg c3, decide_eq_true (by omega)]; simp [rate_Of.j0]


theorem money_t {a : Int} (h1 : -100000000000 ≤ a) (h2 : a ≤ 100000000000) : rate_Money.f a = some true := by
  unfold rate_Money.f; rw [if_pos (by omega), decide_eq_true (by omega)]

theorem money_f {a : Int} (h : a < -100000000000 ∨ 100000000000 < a) : rate_Money.f a = some false := by
  unfold rate_Money.f
  by_cases c : a ≥ -100000000000
  · rw [if_pos c, decide_eq_false (by omega)]
  · rw [if_neg c]


theorem right_t {a : Int} (h1 : 0 ≤ a) (h2 : a ≤ 1000000) : rate_Right.f a = some true := by
  unfold rate_Right.f; rw [if_pos (by omega), decide_eq_true (by omega)]

theorem right_f {a : Int} (h : a < 0 ∨ 1000000 < a) : rate_Right.f a = some false := by
  unfold rate_Right.f
  by_cases c : a ≥ 0
  · rw [if_pos c, decide_eq_false (by omega)]
  · rw [if_neg c]


theorem allow_val {k : Nat} {n r : Int} (hk : 0 < k) (h1 : 0 ≤ n) (h2 : n ≤ 100000000000) (h3 : 0 ≤ r) (h4 : r ≤ 1000000) : allow_Of.f k n r = some (-Nums.rnd (n * r), 0) := by
  have hb := Nums.rnd_bd h1 h3 h4
  unfold allow_Of.f
  rw [if_neg (by omega), money_t (by omega) h2, right_t h3 h4, of_val n r hk (by omega) (by omega) h3 (by omega)]
  simp only [Option.bind_some, if_true]
  rw [Nums.w64 (by omega) (by omega)]

theorem allow_bad {k : Nat} {n r : Int} (h : n < 0 ∨ 100000000000 < n ∨ r < 0 ∨ 1000000 < r) : allow_Of.f k n r = some (0, 1) := by
  unfold allow_Of.f
  by_cases c1 : n < 0
  · rw [if_pos c1]
  · rw [if_neg c1]
    by_cases c2 : 100000000000 < n
    · rw [money_f (by omega)]; simp
    · rw [money_t (by omega) (by omega), right_f (by omega)]; simp

theorem change_val (a b : Int) (h1 : -9223372036854775808 ≤ a - b) (h2 : a - b ≤ 9223372036854775807) : allow_Change.f a b = some (a - b) := by
  unfold allow_Change.f; rw [Nums.w64 h1 h2]


/-- scutageplay.Amount: some number of 64 bits. -/
theorem amount (a : Int) (h : (Lit.int .i64 a).wf = true) : ∃ v, scutageplay_Amount.f a = some v ∧ -9223372036854775808 ≤ v ∧ v ≤ 9223372036854775807 := by
  obtain ⟨h1, h2⟩ := Nums.wf64 h
  have hd := Nums.tdiv_bd (show (1 : Int) ≤ 23 by decide) h1 h2
  have wd : (Lit.int .i64 (wrap64 (Int.tdiv a 23))).wf = true := by
    rw [Nums.w64 hd.1 hd.2]
    simp [Lit.wf, IntKind.min, IntKind.max, IntKind.signed, IntKind.bits]
    omega
  obtain ⟨x, hx, x0, x1⟩ := within _ 5 wd (by omega) (by omega)
  obtain ⟨y, hy, y0, y1⟩ := within _ 200000000001 wd (by omega) (by omega)
  obtain ⟨z, hz, z0, z1⟩ := within a 4001 h (by omega) (by omega)
  unfold scutageplay_Amount.f
  rw [hx, hy, hz]
  simp only [Option.bind_some]
  have hw : ∀ n, -9223372036854775808 ≤ wrap64 n ∧ wrap64 n ≤ 9223372036854775807 := fun n => by unfold wrap64; omega
  by_cases c1 : Int.tmod a 23 = 20
  · rw [if_pos c1]; exact ⟨_, rfl, hw _⟩
  · rw [if_neg c1]
    by_cases c2 : Int.tmod a 23 = 21
    · rw [if_pos c2]; exact ⟨_, rfl, hw _⟩
    · rw [if_neg c2]
      by_cases c3 : Int.tmod a 23 = 22
      · rw [if_pos c3]; exact ⟨_, rfl, h1, h2⟩
      · rw [if_neg c3]
        by_cases c4 : Int.tmod a 23 = 19
        · rw [if_pos c4]; exact ⟨_, rfl, hw _⟩
        · rw [if_neg c4]; exact ⟨_, rfl, hw _⟩


/-- scutageplay.Rate: some number of 64 bits. -/
theorem rate_some (a : Int) (h : (Lit.int .i64 a).wf = true) : ∃ v, scutageplay_Rate.f a = some v ∧ -9223372036854775808 ≤ v ∧ v ≤ 9223372036854775807 := by
  obtain ⟨h1, h2⟩ := Nums.wf64 h
  obtain ⟨z, hz, z0, z1⟩ := within a 10 h (by omega) (by omega)
  unfold scutageplay_Rate.f
  by_cases c : Int.tmod a 29 = 28
  · rw [if_pos c]; exact ⟨_, rfl, h1, h2⟩
  · rw [if_neg c, hz]
    simp only [Option.bind_some]
    rw [if_pos z0, if_pos (by simpa using z1)]
    refine ⟨_, rfl, ?_⟩
    have : z = 0 ∨ z = 1 ∨ z = 2 ∨ z = 3 ∨ z = 4 ∨ z = 5 ∨ z = 6 ∨ z = 7 ∨ z = 8 ∨ z = 9 := by omega
    rcases this with rfl | rfl | rfl | rfl | rfl | rfl | rfl | rfl | rfl | rfl <;> simp [rd]


theorem ref_of_pos {k : Nat} {n r : Int} (hk : 1 < k) (h1 : 0 ≤ n) (h2 : n ≤ 400000000000) (h3 : 0 ≤ r) (h4 : r ≤ 10000000) : scutageref01_Of.f k n r = some (Nums.rnd (n * r), true) := by
  obtain ⟨k, rfl⟩ : ∃ m, k = m + 2 := ⟨k - 2, by omega⟩
  have hb := Nums.mul_bd h1 h2 h3 h4
  simp only [scutageref01_Of.f]
  rw [if_neg (by omega), if_neg (by omega), if_neg (by omega), decide_eq_false (by omega)]
  simp only [scutageref01_Of.j0]
  rw [if_neg (by decide), if_neg (by omega), Nums.w64 (n := n * r) (by omega) (by omega)]
  generalize n * r = p at *
  rw [Nums.tmod_pos (by omega), Nums.tdiv_pos (by omega), Nums.w64 (n := 2 * (p % 1000000)) (by omega) (by omega), Nums.w64 (n := p / 1000000) (by omega) (by omega), Nums.w64 (n := p / 1000000 + 1) (by omega) (by omega)]
  unfold Nums.rnd
  rw [if_pos (show 0 ≤ p by omega)]
  by_cases c : 2 * (p % 1000000) ≥ 1000000
  · rw [if_pos c]; congr 2; omega
  · rw [if_neg c]; congr 2; omega

theorem ref_of_val {k : Nat} {n r : Int} (hk : 3 < k) (h1 : -400000000000 ≤ n) (h2 : n ≤ 400000000000) (h3 : 0 ≤ r) (h4 : r ≤ 10000000) : scutageref01_Of.f k n r = some (Nums.rnd (n * r), true) := by
  by_cases c : 0 ≤ n
  · exact ref_of_pos (by omega) c h2 h3 h4
  · obtain ⟨k, rfl⟩ : ∃ m, k = m + 2 := ⟨k - 2, by omega⟩
    have hb := Nums.mul_bd' h1 h2 h3 h4
    simp only [scutageref01_Of.f]
    rw [if_neg (by omega), if_neg (by omega), if_neg (by omega), decide_eq_false (by omega)]
    simp only [scutageref01_Of.j0]
    rw [if_neg (by decide), if_pos (by omega), Nums.w64 (n := -n) (by omega) (by omega), ref_of_pos (by omega) (by omega) (by omega) h3 h4]
    simp only [Option.bind_some]
    rw [Int.neg_mul, Nums.rnd_neg, Int.neg_neg]
    generalize n * r = p at *
    have q1 := fun h => Nums.rnd_pos (p := p) h
    have q2 := fun h => Nums.rnd_negs (p := p) h
    rw [Nums.w64 (by omega) (by omega)]

theorem ref_right_t {a : Int} (h1 : 0 ≤ a) (h2 : a ≤ 1000000) : scutageref01_Right.f a = some true := by
  unfold scutageref01_Right.f; rw [if_pos (by omega), decide_eq_true (by omega)]

theorem ref_right_f {a : Int} (h : a < 0 ∨ 1000000 < a) : scutageref01_Right.f a = some false := by
  unfold scutageref01_Right.f
  by_cases c : a ≥ 0
  · rw [if_pos c, decide_eq_false (by omega)]
  · rw [if_neg c]

theorem share_val {k : Nat} {n r : Int} (hk : 3 < k) (h1 : 0 ≤ n) (h2 : n ≤ 100000000000) (h3 : 0 ≤ r) (h4 : r ≤ 1000000) : scutageref09_Share.f k n r = some (Nums.rnd (n * r), 0) := by
  unfold scutageref09_Share.f scutageref01_Part.f
  rw [if_neg (by omega), if_neg (by omega), ref_right_t h3 h4, ref_of_val hk (by omega) (by omega) h3 (by omega)]
  rfl

theorem share_bad {k : Nat} {n r : Int} (h : n < 0 ∨ 100000000000 < n ∨ r < 0 ∨ 1000000 < r) : scutageref09_Share.f k n r = some (0, 1) := by
  unfold scutageref09_Share.f
  by_cases c1 : n < 0
  · rw [if_pos c1]
  · rw [if_neg c1]
    by_cases c2 : n > 100000000000
    · rw [if_pos c2]
    · rw [if_neg c2, ref_right_f (by omega)]; rfl


theorem wakes_val : scutagelaw18_wakes.f 9 = some true := by decide +kernel

theorem AllowTells : scutagelaw18_AllowTells.Pure := by
  intro a0 a1 a2 a3 w0 w1 w2 w3
  refine ⟨9, ?_⟩
  obtain ⟨n, hn, n0, n1⟩ := amount a0 w0
  obtain ⟨r, hr, r0, r1⟩ := rate_some a1 w1
  obtain ⟨a, ha, x0, x1⟩ := amount a2 w2
  obtain ⟨b, hb, b0, b1⟩ := amount a3 w3
  unfold scutagelaw18_AllowTells.f
  rw [hn, hr, ha, hb]
  have hw := wakes_val
  simp only [Option.bind_some]
  by_cases c : n < 0 ∨ 100000000000 < n ∨ r < 0 ∨ 1000000 < r
  · rw [allow_bad c, share_bad c]
    have z : wrap64 (-0) = 0 := by unfold wrap64; omega
    simp only [Option.bind_some, allow_Change.f, hw, z]
    simp
  · have h1 := Nums.rnd_bd (show 0 ≤ n by omega) (show 0 ≤ r by omega) (show r ≤ 1000000 by omega)
    rw [allow_val (by decide) (by omega) (by omega) (by omega) (by omega), share_val (by decide) (by omega) (by omega) (by omega) (by omega)]
    simp only [Option.bind_some, allow_Change.f, hw]
    rw [Nums.w64 (n := -Nums.rnd (n * r)) (by omega) (by omega)]
    simp

end Go.Proofs.Ytbpagnnfieipcaa.Pure
