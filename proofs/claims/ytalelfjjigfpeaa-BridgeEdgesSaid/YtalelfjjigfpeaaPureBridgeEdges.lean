/- Proved: the law BridgeEdges is true of every input: up to the greatest amount there is an income, past it none. No condition. -/
import Derived.Test.YtalelfjjigfpeaaPBridgeEdgesx1
import Derived.Test.YtalelfjjigfpeaaNums
namespace Go.Proofs.Ytalelfjjigfpeaa.Pure
set_option linter.unusedSimpArgs false
open Go.RowKit Go.Proofs.Ytalelfjjigfpeaa.PBridgeEdges Go.Proofs.YtalelfjjigfpeaaW.PrintWords Go.Proofs.YtalelfjjigfpeaaW.PrintLast Go.Proofs.YtalelfjjigfpeaaW.PrintMore

theorem within (a m : Int) (h : (Lit.int .i64 a).wf = true) (hm : 1 ≤ m) (hm2 : m ≤ 9223372036854775807) : ∃ n, scutagekeep_Within.f a m = some n ∧ 0 ≤ n ∧ n < m := by
  obtain ⟨h1, h2⟩ := Nums.wf64 h
  unfold scutagekeep_Within.f
  rw [if_neg (by omega), if_neg (by omega)]
  have q1 := Int.tmod_lt_of_pos a (show 0 < m by omega)
  have q2 := Int.lt_tmod_of_pos a (show 0 < m by omega)
  by_cases c : Int.tmod a m < 0
  · rw [if_pos c]
    exact ⟨_, rfl, by rw [Nums.w64 (by omega) (by omega)]; omega, by rw [Nums.w64 (by omega) (by omega)]; omega⟩
  · rw [if_neg c]
    exact ⟨_, rfl, by omega, by omega⟩


theorem money_t {a : Int} (h1 : -100000000000 ≤ a) (h2 : a ≤ 100000000000) : rate_Money.f a = some true := by
  unfold rate_Money.f; rw [if_pos (by omega), decide_eq_true (by omega)]

theorem money_f {a : Int} (h : a < -100000000000 ∨ 100000000000 < a) : rate_Money.f a = some false := by
  unfold rate_Money.f
  by_cases c : a ≥ -100000000000
  · rw [if_pos c, decide_eq_false (by omega)]
  · rw [if_neg c]


theorem rd_at (l : List Int) (i : Nat) (h : i < l.length) : rd l (i : Int) = l[i] := by
  unfold rd; simp [h]

/-- All of them amounts? -/
def allM (l : List Int) : Prop := ∀ x ∈ l, -100000000000 ≤ x ∧ x ≤ 100000000000

theorem sum_loop_t (l : List Int) (hl : l.length ≤ 1000) (d : Nat) : ∀ (k i : Nat) (acc : Int), i + d = l.length → d < k → -(100000000000 * (i : Int)) ≤ acc → acc ≤ 100000000000 * (i : Int) → allM (l.drop i) →
    rate_Sum.l0 k acc l (l.length : Int) (i : Int) = (rate_Money.f (acc + (l.drop i).sum)).bind fun t => if t = true then some (acc + (l.drop i).sum, true) else some (0, false) := by
  induction d with
  | zero =>
    intro k i acc hi hk h1 h2 ha
    obtain ⟨k, rfl⟩ : ∃ m, k = m + 1 := ⟨k - 1, by omega⟩
    simp only [rate_Sum.l0]
    rw [if_neg (by omega), List.drop_eq_nil_of_le (by omega)]
    simp
  | succ d ih =>
    intro k i acc hi hk h1 h2 ha
    obtain ⟨k, rfl⟩ : ∃ m, k = m + 1 := ⟨k - 1, by omega⟩
    have hlt : i < l.length := by omega
    have hd : l.drop i = l[i] :: l.drop (i + 1) := List.drop_eq_getElem_cons hlt
    rw [hd] at ha
    have hx := ha l[i] List.mem_cons_self
    simp only [rate_Sum.l0]
    rw [if_pos (by omega), if_pos (by omega), if_pos (by omega), rd_at l i hlt, money_t hx.1 hx.2]
    simp only [Option.bind_some, if_true]
    rw [Nums.w64 (n := acc + l[i]) (by omega) (by omega), Nums.w64 (n := (i : Int) + 1) (by omega) (by omega)]
    rw [show (i : Int) + 1 = ((i + 1 : Nat) : Int) by omega, ih k (i + 1) (acc + l[i]) (by omega) (by omega) (by omega) (by omega) (fun x hx => ha x (List.mem_cons_of_mem _ hx)), hd, List.sum_cons, Int.add_assoc]

theorem sum_loop_f (l : List Int) (hl : l.length ≤ 1000) (d : Nat) : ∀ (k i : Nat) (acc : Int), i + d = l.length → d < k → -(100000000000 * (i : Int)) ≤ acc → acc ≤ 100000000000 * (i : Int) → ¬ allM (l.drop i) →
    rate_Sum.l0 k acc l (l.length : Int) (i : Int) = some (0, false) := by
  induction d with
  | zero =>
    intro k i acc hi hk h1 h2 ha
    exact absurd (fun x hx => by rw [List.drop_eq_nil_of_le (by omega)] at hx; cases hx) ha
  | succ d ih =>
    intro k i acc hi hk h1 h2 ha
    obtain ⟨k, rfl⟩ : ∃ m, k = m + 1 := ⟨k - 1, by omega⟩
    have hlt : i < l.length := by omega
    have hd : l.drop i = l[i] :: l.drop (i + 1) := List.drop_eq_getElem_cons hlt
    simp only [rate_Sum.l0]
    rw [if_pos (by omega), if_pos (by omega), if_pos (by omega), rd_at l i hlt]
    by_cases hx : -100000000000 ≤ l[i] ∧ l[i] ≤ 100000000000
    · rw [money_t hx.1 hx.2]
      simp only [Option.bind_some, if_true]
      rw [Nums.w64 (n := acc + l[i]) (by omega) (by omega), Nums.w64 (n := (i : Int) + 1) (by omega) (by omega), show (i : Int) + 1 = ((i + 1 : Nat) : Int) by omega]
      refine ih k (i + 1) _ (by omega) (by omega) (by omega) (by omega) (fun h => ha ?_)
      rw [hd]
      intro x hm
      rcases List.mem_cons.1 hm with rfl | hm
      · exact hx
      · exact h x hm
    · rw [money_f (by omega)]
      simp

/-- rate.Sum: of amounts whose sum is one. -/
theorem sum_t {k : Nat} {l : List Int} (hk : l.length < k) (hl : l.length ≤ 1000) (ha : allM l) (h1 : -100000000000 ≤ l.sum) (h2 : l.sum ≤ 100000000000) : rate_Sum.f k l = some (l.sum, true) := by
  have h := sum_loop_t l hl l.length k 0 0 (by omega) hk (by omega) (by omega) (by rwa [List.drop_zero])
  rw [List.drop_zero, Int.zero_add, money_t h1 h2] at h
  simpa [rate_Sum.f] using h

theorem sum_f {k : Nat} {l : List Int} (hk : l.length < k) (hl : l.length ≤ 1000) (h : ¬ allM l ∨ l.sum < -100000000000 ∨ 100000000000 < l.sum) : rate_Sum.f k l = some (0, false) := by
  by_cases ha : allM l
  · have hh := sum_loop_t l hl l.length k 0 0 (by omega) hk (by omega) (by omega) (by rwa [List.drop_zero])
    rw [List.drop_zero, Int.zero_add, money_f (by rcases h with h | h; exact absurd ha h; exact h)] at hh
    simpa [rate_Sum.f] using hh
  · have hh := sum_loop_f l hl l.length k 0 0 (by omega) hk (by omega) (by omega) (by rwa [List.drop_zero])
    simpa [rate_Sum.f] using hh


theorem allM3 {a b c : Int} : allM [a, b, c] ↔ (-100000000000 ≤ a ∧ a ≤ 100000000000) ∧ (-100000000000 ≤ b ∧ b ≤ 100000000000) ∧ (-100000000000 ≤ c ∧ c ≤ 100000000000) := by
  unfold allM; simp

theorem sum3 (a b c : Int) : [a, b, c].sum = a + b + c := by simp [List.sum_cons]; omega

theorem income_t {k : Nat} {b p m : Int} (hk : 3 < k) (h1 : -100000000000 ≤ b ∧ b ≤ 100000000000) (h2 : -100000000000 ≤ p ∧ p ≤ 100000000000) (h3 : -100000000000 ≤ m ∧ m ≤ 100000000000) (h4 : -100000000000 ≤ b + p - m ∧ b + p - m ≤ 100000000000) :
    bridge_Income.f k b p m = some (b + p - m, true) := by
  unfold bridge_Income.f
  rw [money_t h3.1 h3.2]
  simp only [Option.bind_some, if_true]
  rw [Nums.w64 (by omega) (by omega), sum_t (by simpa using hk) (by simp) (allM3.2 ⟨h1, h2, by omega, by omega⟩) (by rw [sum3]; omega) (by rw [sum3]; omega), sum3]
  simp; omega

theorem income_f {k : Nat} {b p m : Int} (hk : 3 < k) (h : b < -100000000000 ∨ 100000000000 < b ∨ p < -100000000000 ∨ 100000000000 < p ∨ m < -100000000000 ∨ 100000000000 < m ∨ b + p - m < -100000000000 ∨ 100000000000 < b + p - m) :
    bridge_Income.f k b p m = some (0, false) := by
  unfold bridge_Income.f
  by_cases c : m < -100000000000 ∨ 100000000000 < m
  · rw [money_f c]; simp
  · rw [money_t (by omega) (by omega)]
    simp only [Option.bind_some, if_true]
    rw [Nums.w64 (by omega) (by omega), sum_f (by simpa using hk) (by simp) (by rw [sum3, allM3]; omega)]
    rfl


theorem wakes_val : scutagelaw12_wakes.f 9 = some true := by decide +kernel

set_option maxHeartbeats 1000000 in
theorem BridgeEdges : scutagelaw12_BridgeEdges.Pure := by
  intro a0 w0
  refine ⟨9, ?_⟩
  obtain ⟨n, hn, n0, n1⟩ := within a0 100000000001 w0 (by omega) (by omega)
  unfold scutagelaw12_BridgeEdges.f
  rw [hn]
  have hw := wakes_val
  simp (disch := omega) only [Option.bind_some, Nums.w64, if_pos, if_neg, if_true, if_false, Bool.false_eq_true, reduceIte, Nums.beq_t, Nums.beq_f, Nums.bne_t, Nums.bne_f, Nums.dec_t, Nums.dec_f, income_t, income_f, hw]

end Go.Proofs.Ytalelfjjigfpeaa.Pure
