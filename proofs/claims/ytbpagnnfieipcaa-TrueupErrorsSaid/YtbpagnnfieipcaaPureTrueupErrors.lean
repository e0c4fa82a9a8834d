/- Proved: the law TrueupErrors is true of every input: returns, rates, provisions that may not be are refused, and no others. No condition. -/
import Derived.Test.YtbpagnnfieipcaaPTrueupErrorsx1
import Derived.Test.YtbpagnnfieipcaaNums
namespace Go.Proofs.Ytbpagnnfieipcaa.Pure
set_option linter.unusedSimpArgs false
open Go.RowKit Go.Proofs.Ytbpagnnfieipcaa.PTrueupErrors Go.Proofs.YtbpagnnfieipcaaW.PrintWords Go.Proofs.YtbpagnnfieipcaaW.PrintLast Go.Proofs.YtbpagnnfieipcaaW.PrintMore

theorem within (a m : Int) (h : (Lit.int .i64 a).wf = true) (hm : 1 ≤ m) (hm2 : m ≤ 9223372036854775807) : ∃ n, scutagekeep_Within.f a m = some n ∧ 0 ≤ n ∧ n < m := by
  obtain ⟨h1, h2⟩ := Nums.wf64 h
  unfold scutagekeep_Within.f
  rw [if_neg (by omega), if_neg (by omega)]
  have q1 := Int.tmod_lt_of_pos a (show 0 < m by omega)
  have q2 := Int.lt_tmod_of_pos a (show 0 < m by omega)
  by_cases c : Int.tmod a m < 0
  · rw [if_pos c]
    exact ⟨_, rfl, by rw [Nums.w64 (by omega) (by omega)]; omega, by rw [Nums.w64 (by omega) (by omega)]; omega⟩
  · rw [if_neg c]
    exact ⟨_, rfl, by omega, by omega⟩


theorem of_val {k : Nat} (n r : Int) (hk : 0 < k) (h1 : -400000000000 ≤ n) (h2 : n ≤ 400000000000) (h3 : 0 ≤ r) (h4 : r ≤ 10000000) : rate_Of.f k n r = some (Nums.rnd (n * r), true) := by
  obtain ⟨k, rfl⟩ : ∃ m, k = m + 1 := ⟨k - 1, by omega⟩
  have hb := Nums.mul_bd' h1 h2 h3 h4
  have hs : n < 0 → n * r ≤ 0 := fun h => Int.mul_nonpos_of_nonpos_of_nonneg (by omega) h3
  have hs' : 0 ≤ n → 0 ≤ n * r := fun h => Int.mul_nonneg h h3
  have e : wrap64 (wrap64 (2 * n) * r) = 2 * (n * r) := by
    rw [Nums.w64 (n := 2 * n) (by omega) (by omega), Int.mul_assoc, Nums.w64 (by omega) (by omega)]
  unfold rate_Of.f
  rw [if_neg (by omega), if_neg (by omega), if_neg (by omega), decide_eq_false (by omega)]
  simp only [rate_Of.j0]
  rw [if_neg (by decide), e]
  generalize n * r = p at *
  unfold Nums.rnd
  by_cases c : n < 0
  · rw [if_pos c, Nums.w64 (n := 2 * p - 1000000) (by omega) (by omega), Nums.tdiv_neg' (by have := hs c; omega)]
    by_cases z : 0 ≤ p
    · have : p = 0 := by have := hs c; omega
      subst this; decide +kernel
    · rw [if_neg z, Nums.w64 (by omega) (by omega)]
      congr 3; omega
  · have := hs' (by omega)
    rw [if_neg c, Nums.w64 (n := 2 * p + 1000000) (by omega) (by omega), Nums.tdiv_pos (by omega), if_pos this, Nums.w64 (by omega) (by omega)]

theorem of_bad {k : Nat} (n r : Int) (hk : 0 < k) (h : n < -400000000000 ∨ 400000000000 < n ∨ r < 0 ∨ 10000000 < r) : rate_Of.f k n r = some (0, false) := by
  obtain ⟨k, rfl⟩ : ∃ m, k = m + 1 := ⟨k - 1, by omega⟩
  unfold rate_Of.f
  by_cases c1 : n < -400000000000
  · rw [if_pos c1]; simp [rate_Of.j0]
  · rw [if_neg c1]
    by_cases c2 : n > 400000000000
    · rw [if_pos c2]; simp [rate_Of.j0]
    · rw [if_neg c2]
      by_cases c3 : r < 0
      · rw [if_pos c3]; simp [rate_Of.j0]
      · rw [if_neg c3, decide_eq_true (by omega)]; simp [rate_Of.j0]


theorem money_t {a : Int} (h1 : -100000000000 ≤ a) (h2 : a ≤ 100000000000) : rate_Money.f a = some true := by
  unfold rate_Money.f; rw [if_pos (by omega), decide_eq_true (by omega)]

theorem money_f {a : Int} (h : a < -100000000000 ∨ 100000000000 < a) : rate_Money.f a = some false := by
  unfold rate_Money.f
  by_cases c : a ≥ -100000000000
  · rw [if_pos c, decide_eq_false (by omega)]
  · rw [if_neg c]


theorem right_t {a : Int} (h1 : 0 ≤ a) (h2 : a ≤ 1000000) : rate_Right.f a = some true := by
  unfold rate_Right.f; rw [if_pos (by omega), decide_eq_true (by omega)]

theorem right_f {a : Int} (h : a < 0 ∨ 1000000 < a) : rate_Right.f a = some false := by
  unfold rate_Right.f
  by_cases c : a ≥ 0
  · rw [if_pos c, decide_eq_false (by omega)]
  · rw [if_neg c]


theorem true_ok {k : Nat} {n r p : Int} (hk : 1 < k) (h1 : 0 ≤ n) (h2 : n ≤ 100000000000) (h3 : 0 ≤ r) (h4 : r ≤ 1000000) (h5 : -100000000000 ≤ p) (h6 : p ≤ 100000000000) :
    trueup_Of.f k n r p = (rate_Money.f (Nums.rnd (n * r) - p)).bind fun t => if t = true then some (Nums.rnd (n * r) - p, 0) else some (0, 6) := by
  obtain ⟨k, rfl⟩ : ∃ m, k = m + 1 := ⟨k - 1, by omega⟩
  have hb := Nums.rnd_bd h1 h3 h4
  unfold trueup_Of.f
  rw [if_neg (by omega), money_t (a := n) (by omega) h2, right_t h3 h4, money_t h5 h6]
  simp only [Option.bind_some, if_true, trueup_Of.j0, Bool.not_true]
  rw [if_neg (by decide), of_val n r (by omega) (by omega) (by omega) h3 (by omega)]
  simp only [Option.bind_some]
  rw [Nums.w64 (by omega) (by omega)]

theorem true_val {k : Nat} {n r p : Int} (hk : 1 < k) (h1 : 0 ≤ n) (h2 : n ≤ 100000000000) (h3 : 0 ≤ r) (h4 : r ≤ 1000000) (h5 : -100000000000 ≤ p) (h6 : p ≤ 100000000000) (h7 : Nums.rnd (n * r) - p ≤ 100000000000) :
    trueup_Of.f k n r p = some (Nums.rnd (n * r) - p, 0) := by
  have hb := Nums.rnd_bd h1 h3 h4
  rw [true_ok hk h1 h2 h3 h4 h5 h6, money_t (by omega) (by omega)]; rfl

theorem true_over {k : Nat} {n r p : Int} (hk : 1 < k) (h1 : 0 ≤ n) (h2 : n ≤ 100000000000) (h3 : 0 ≤ r) (h4 : r ≤ 1000000) (h5 : -100000000000 ≤ p) (h6 : p ≤ 100000000000) (h7 : 100000000000 < Nums.rnd (n * r) - p) :
    trueup_Of.f k n r p = some (0, 6) := by
  rw [true_ok hk h1 h2 h3 h4 h5 h6, money_f (by omega)]; rfl

theorem true_bad {k : Nat} {n r p : Int} (hk : 0 < k) (h : n < 0 ∨ 100000000000 < n ∨ r < 0 ∨ 1000000 < r ∨ p < -100000000000 ∨ 100000000000 < p) : trueup_Of.f k n r p = some (0, 1) := by
  obtain ⟨k, rfl⟩ : ∃ m, k = m + 1 := ⟨k - 1, by omega⟩
  unfold trueup_Of.f
  by_cases c1 : n < 0
  · rw [if_pos c1]; simp [trueup_Of.j0]
  · rw [if_neg c1]
    by_cases c2 : 100000000000 < n
    · rw [money_f (a := n) (by omega)]; simp [trueup_Of.j0]
    · rw [money_t (a := n) (by omega) (by omega)]
      simp only [Option.bind_some, if_true]
      by_cases c3 : r < 0 ∨ 1000000 < r
      · rw [right_f c3]; simp [trueup_Of.j0]
      · rw [right_t (by omega) (by omega), money_f (by omega)]; simp [trueup_Of.j0]


theorem wakes_val : scutagelaw22_wakes.f 9 = some true := by decide +kernel

/-- A row's answer is as it says. -/
def ok (x : S30) : Prop := ∀ k, 1 < k → ∃ v, trueup_Of.f k x.f0 x.f1 x.f2 = some (v, x.f3) ∧ (x.f3 = 0 ∨ v = 0)

theorem loop (l : List S30) (hl : l.length ≤ 1000) (ha : ∀ x ∈ l, ok x) (d : Nat) : ∀ (k i : Nat), i + d = l.length → d + 9 ≤ k → (∀ k, 9 ≤ k → scutagelaw22_wakes.f k = some true) → scutagelaw22_TrueupErrors.l0 (k + 1) l (l.length : Int) (i : Int) = some true := by
  induction d with
  | zero =>
    intro k i hi hk hw
    simp only [scutagelaw22_TrueupErrors.l0]
    rw [if_neg (by omega), hw k (by omega)]
    rfl
  | succ d ih =>
    intro k i hi hk hw
    obtain ⟨k, rfl⟩ : ∃ m, k = m + 1 := ⟨k - 1, by omega⟩
    have hlt : i < l.length := by omega
    have hr : rd_T30 l (i : Int) = l[i] := by unfold rd_T30; simp [hlt]
    obtain ⟨v, hv, hz⟩ := ha l[i] (List.getElem_mem hlt) (k + 1) (by omega)
    rw [scutagelaw22_TrueupErrors.l0]
    rw [if_pos (by omega), if_pos (by omega), if_pos (by omega), hr, hv]
    simp only [Option.bind_some, if_true]
    have hn := ih k (i + 1) (by omega) (by omega) hw
    rw [Nums.w64 (by omega) (by omega), show (i : Int) + 1 = ((i + 1 : Nat) : Int) by omega, hn]
    rcases hz with h | h
    · rw [if_pos h]
    · by_cases c : l[i].f3 = 0
      · rw [if_pos c]
      · rw [if_neg c, if_pos h]

theorem wakes_all (k : Nat) (hk : 9 ≤ k) : scutagelaw22_wakes.f k = some true := by
  obtain ⟨j, rfl⟩ : ∃ j, k = 9 + j := ⟨k - 9, by omega⟩
  exact more_rounds scutagelaw22_wakes.mono 9 j _ wakes_val

theorem TrueupErrors : scutagelaw22_TrueupErrors.Pure := by
  intro a0 a1 w0 w1
  refine ⟨20, ?_⟩
  obtain ⟨n, hn, n0, n1⟩ := within a0 1000 w0 (by omega) (by omega)
  obtain ⟨r, hr, r0, r1⟩ := within a1 1000001 w1 (by omega) (by omega)
  unfold scutagelaw22_TrueupErrors.f
  rw [hn, hr]
  have hz : Nums.rnd (0 * r) = 0 := by rw [Int.zero_mul]; rfl
  simp only [Option.bind_some]
  rw [Nums.w64 (n := 1 + n) (by omega) (by omega), Nums.w64 (n := -(1 + n)) (by omega) (by omega), Nums.w64 (n := 100000000000 + (1 + n)) (by omega) (by omega)]
  refine loop _ (by simp) ?_ 9 19 0 (by simp) (by omega) wakes_all
  intro x hx
  simp only [List.mem_cons, List.not_mem_nil, or_false] at hx
  rcases hx with rfl | rfl | rfl | rfl | rfl | rfl | rfl | rfl | rfl <;> intro k hk
  · exact ⟨0, true_bad (n := -(1 + n)) (r := r) (p := 0) (by omega) (by omega), .inr rfl⟩
  · exact ⟨0, true_bad (n := 100000000000 + (1 + n)) (r := r) (p := 0) (by omega) (by omega), .inr rfl⟩
  · exact ⟨0, true_bad (n := 1 + n) (r := -1) (p := 0) (by omega) (by omega), .inr rfl⟩
  · exact ⟨0, true_bad (n := 1 + n) (r := 1000001) (p := 0) (by omega) (by omega), .inr rfl⟩
  · exact ⟨0, true_bad (n := 1 + n) (r := r) (p := 100000000001) (by omega) (by omega), .inr rfl⟩
  · exact ⟨0, true_bad (n := 1 + n) (r := r) (p := -100000000001) (by omega) (by omega), .inr rfl⟩
  · exact ⟨0, true_over (n := 100000000000) (r := 1000000) (p := -(1 + n)) hk (by omega) (by omega) (by omega) (by omega) (by omega) (by omega) (by show 100000000000 < Nums.rnd (100000000000 * 1000000) - -(1 + n); rw [Nums.rnd_whole]; omega), .inr rfl⟩
  · exact ⟨_, true_val (n := 100000000000) (r := 1000000) (p := 1 + n) hk (by omega) (by omega) (by omega) (by omega) (by omega) (by omega) (by show Nums.rnd (100000000000 * 1000000) - (1 + n) ≤ 100000000000; rw [Nums.rnd_whole]; omega), .inl rfl⟩
  · exact ⟨_, true_val (n := 0) (r := r) (p := -100000000000) hk (by omega) (by omega) r0 (by omega) (by omega) (by omega) (by show Nums.rnd (0 * r) - -100000000000 ≤ 100000000000; rw [hz]; omega), .inl rfl⟩

end Go.Proofs.Ytbpagnnfieipcaa.Pure
