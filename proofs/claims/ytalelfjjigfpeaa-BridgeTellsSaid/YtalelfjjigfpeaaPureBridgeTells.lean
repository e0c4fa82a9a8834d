/- Proved: the law BridgeTells is true of every input: the income by the tax, and its way there, are the document's. No condition. -/
import Derived.Test.YtalelfjjigfpeaaPBridgeTellsx3
import Derived.Test.YtalelfjjigfpeaaNums
namespace Go.Proofs.Ytalelfjjigfpeaa.Pure
set_option linter.unusedSimpArgs false
open Go.RowKit Go.Proofs.Ytalelfjjigfpeaa.PBridgeTells Go.Proofs.YtalelfjjigfpeaaW.PrintWords Go.Proofs.YtalelfjjigfpeaaW.PrintLast Go.Proofs.YtalelfjjigfpeaaW.PrintMore

theorem within (a m : Int) (h : (Lit.int .i64 a).wf = true) (hm : 1 ≤ m) (hm2 : m ≤ 9223372036854775807) : ∃ n, scutagekeep_Within.f a m = some n ∧ 0 ≤ n ∧ n < m := by
  obtain ⟨h1, h2⟩ := Nums.wf64 h
  unfold scutagekeep_Within.f
  rw [if_neg (by omega), if_neg (by omega)]
  have q1 := Int.tmod_lt_of_pos a (show 0 < m by omega)
  have q2 := Int.lt_tmod_of_pos a (show 0 < m by omega)
  by_cases c : Int.tmod a m < 0
  · rw [if_pos c]
    exact ⟨_, rfl, by rw [Nums.w64 (by omega) (by omega)]; omega, by rw [Nums.w64 (by omega) (by omega)]; omega⟩
  · rw [if_neg c]
    exact ⟨_, rfl, by omega, by omega⟩


theorem money_t {a : Int} (h1 : -100000000000 ≤ a) (h2 : a ≤ 100000000000) : rate_Money.f a = some true := by
  unfold rate_Money.f; rw [if_pos (by omega), decide_eq_true (by omega)]

theorem money_f {a : Int} (h : a < -100000000000 ∨ 100000000000 < a) : rate_Money.f a = some false := by
  unfold rate_Money.f
  by_cases c : a ≥ -100000000000
  · rw [if_pos c, decide_eq_false (by omega)]
  · rw [if_neg c]


theorem rd_at (l : List Int) (i : Nat) (h : i < l.length) : rd l (i : Int) = l[i] := by
  unfold rd; simp [h]

/-- All of them amounts? -/
def allM (l : List Int) : Prop := ∀ x ∈ l, -100000000000 ≤ x ∧ x ≤ 100000000000

theorem sum_loop_t (l : List Int) (hl : l.length ≤ 1000) (d : Nat) : ∀ (k i : Nat) (acc : Int), i + d = l.length → d < k → -(100000000000 * (i : Int)) ≤ acc → acc ≤ 100000000000 * (i : Int) → allM (l.drop i) →
    rate_Sum.l0 k acc l (l.length : Int) (i : Int) = (rate_Money.f (acc + (l.drop i).sum)).bind fun t => if t = true then some (acc + (l.drop i).sum, true) else some (0, false) := by
  induction d with
  | zero =>
    intro k i acc hi hk h1 h2 ha
    obtain ⟨k, rfl⟩ : ∃ m, k = m + 1 := ⟨k - 1, by omega⟩
    simp only [rate_Sum.l0]
    rw [if_neg (by omega), List.drop_eq_nil_of_le (by omega)]
    simp
  | succ d ih =>
    intro k i acc hi hk h1 h2 ha
    obtain ⟨k, rfl⟩ : ∃ m, k = m + 1 := ⟨k - 1, by omega⟩
    have hlt : i < l.length := by omega
    have hd : l.drop i = l[i] :: l.drop (i + 1) := List.drop_eq_getElem_cons hlt
    rw [hd] at ha
    have hx := ha l[i] List.mem_cons_self
    simp only [rate_Sum.l0]
    rw [if_pos (by omega), if_pos (by omega), if_pos (by omega), rd_at l i hlt, money_t hx.1 hx.2]
    simp only [Option.bind_some, if_true]
    rw [Nums.w64 (n := acc + l[i]) (by omega) (by omega), Nums.w64 (n := (i : Int) + 1) (by omega) (by omega)]
    rw [show (i : Int) + 1 = ((i + 1 : Nat) : Int) by omega, ih k (i + 1) (acc + l[i]) (by omega) (by omega) (by omega) (by omega) (fun x hx => ha x (List.mem_cons_of_mem _ hx)), hd, List.sum_cons, Int.add_assoc]

theorem sum_loop_f (l : List Int) (hl : l.length ≤ 1000) (d : Nat) : ∀ (k i : Nat) (acc : Int), i + d = l.length → d < k → -(100000000000 * (i : Int)) ≤ acc → acc ≤ 100000000000 * (i : Int) → ¬ allM (l.drop i) →
    rate_Sum.l0 k acc l (l.length : Int) (i : Int) = some (0, false) := by
  induction d with
  | zero =>
    intro k i acc hi hk h1 h2 ha
    exact absurd (fun x hx => by rw [List.drop_eq_nil_of_le (by omega)] at hx; cases hx) ha
  | succ d ih =>
    intro k i acc hi hk h1 h2 ha
    obtain ⟨k, rfl⟩ : ∃ m, k = m + 1 := ⟨k - 1, by omega⟩
    have hlt : i < l.length := by omega
    have hd : l.drop i = l[i] :: l.drop (i + 1) := List.drop_eq_getElem_cons hlt
    simp only [rate_Sum.l0]
    rw [if_pos (by omega), if_pos (by omega), if_pos (by omega), rd_at l i hlt]
    by_cases hx : -100000000000 ≤ l[i] ∧ l[i] ≤ 100000000000
    · rw [money_t hx.1 hx.2]
      simp only [Option.bind_some, if_true]
      rw [Nums.w64 (n := acc + l[i]) (by omega) (by omega), Nums.w64 (n := (i : Int) + 1) (by omega) (by omega), show (i : Int) + 1 = ((i + 1 : Nat) : Int) by omega]
      refine ih k (i + 1) _ (by omega) (by omega) (by omega) (by omega) (fun h => ha ?_)
      rw [hd]
      intro x hm
      rcases List.mem_cons.1 hm with rfl | hm
      · exact hx
      · exact h x hm
    · rw [money_f (by omega)]
      simp

/-- rate.Sum: of amounts whose sum is one. -/
theorem sum_t {k : Nat} {l : List Int} (hk : l.length < k) (hl : l.length ≤ 1000) (ha : allM l) (h1 : -100000000000 ≤ l.sum) (h2 : l.sum ≤ 100000000000) : rate_Sum.f k l = some (l.sum, true) := by
  have h := sum_loop_t l hl l.length k 0 0 (by omega) hk (by omega) (by omega) (by rwa [List.drop_zero])
  rw [List.drop_zero, Int.zero_add, money_t h1 h2] at h
  simpa [rate_Sum.f] using h

theorem sum_f {k : Nat} {l : List Int} (hk : l.length < k) (hl : l.length ≤ 1000) (h : ¬ allM l ∨ l.sum < -100000000000 ∨ 100000000000 < l.sum) : rate_Sum.f k l = some (0, false) := by
  by_cases ha : allM l
  · have hh := sum_loop_t l hl l.length k 0 0 (by omega) hk (by omega) (by omega) (by rwa [List.drop_zero])
    rw [List.drop_zero, Int.zero_add, money_f (by rcases h with h | h; exact absurd ha h; exact h)] at hh
    simpa [rate_Sum.f] using hh
  · have hh := sum_loop_f l hl l.length k 0 0 (by omega) hk (by omega) (by omega) (by rwa [List.drop_zero])
    simpa [rate_Sum.f] using hh


theorem allM3 {a b c : Int} : allM [a, b, c] ↔ (-100000000000 ≤ a ∧ a ≤ 100000000000) ∧ (-100000000000 ≤ b ∧ b ≤ 100000000000) ∧ (-100000000000 ≤ c ∧ c ≤ 100000000000) := by
  unfold allM; simp

theorem sum3 (a b c : Int) : [a, b, c].sum = a + b + c := by simp [List.sum_cons]; omega

theorem income_t {k : Nat} {b p m : Int} (hk : 3 < k) (h1 : -100000000000 ≤ b ∧ b ≤ 100000000000) (h2 : -100000000000 ≤ p ∧ p ≤ 100000000000) (h3 : -100000000000 ≤ m ∧ m ≤ 100000000000) (h4 : -100000000000 ≤ b + p - m ∧ b + p - m ≤ 100000000000) :
    bridge_Income.f k b p m = some (b + p - m, true) := by
  unfold bridge_Income.f
  rw [money_t h3.1 h3.2]
  simp only [Option.bind_some, if_true]
  rw [Nums.w64 (by omega) (by omega), sum_t (by simpa using hk) (by simp) (allM3.2 ⟨h1, h2, by omega, by omega⟩) (by rw [sum3]; omega) (by rw [sum3]; omega), sum3]
  simp; omega

theorem income_f {k : Nat} {b p m : Int} (hk : 3 < k) (h : b < -100000000000 ∨ 100000000000 < b ∨ p < -100000000000 ∨ 100000000000 < p ∨ m < -100000000000 ∨ 100000000000 < m ∨ b + p - m < -100000000000 ∨ 100000000000 < b + p - m) :
    bridge_Income.f k b p m = some (0, false) := by
  unfold bridge_Income.f
  by_cases c : m < -100000000000 ∨ 100000000000 < m
  · rw [money_f c]; simp
  · rw [money_t (by omega) (by omega)]
    simp only [Option.bind_some, if_true]
    rw [Nums.w64 (by omega) (by omega), sum_f (by simpa using hk) (by simp) (by rw [sum3, allM3]; omega)]
    rfl


/-- scutageplay.Amount: some number of 64 bits. -/
theorem amount (a : Int) (h : (Lit.int .i64 a).wf = true) : ∃ v, scutageplay_Amount.f a = some v ∧ -9223372036854775808 ≤ v ∧ v ≤ 9223372036854775807 := by
  obtain ⟨h1, h2⟩ := Nums.wf64 h
  have hd := Nums.tdiv_bd (show (1 : Int) ≤ 23 by decide) h1 h2
  have wd : (Lit.int .i64 (wrap64 (Int.tdiv a 23))).wf = true := by
    rw [Nums.w64 hd.1 hd.2]
    simp [Lit.wf, IntKind.min, IntKind.max, IntKind.signed, IntKind.bits]
    omega
  obtain ⟨x, hx, x0, x1⟩ := within _ 5 wd (by omega) (by omega)
  obtain ⟨y, hy, y0, y1⟩ := within _ 200000000001 wd (by omega) (by omega)
  obtain ⟨z, hz, z0, z1⟩ := within a 4001 h (by omega) (by omega)
  unfold scutageplay_Amount.f
  rw [hx, hy, hz]
  simp only [Option.bind_some]
  have hw : ∀ n, -9223372036854775808 ≤ wrap64 n ∧ wrap64 n ≤ 9223372036854775807 := fun n => by unfold wrap64; omega
  by_cases c1 : Int.tmod a 23 = 20
  · rw [if_pos c1]; exact ⟨_, rfl, hw _⟩
  · rw [if_neg c1]
    by_cases c2 : Int.tmod a 23 = 21
    · rw [if_pos c2]; exact ⟨_, rfl, hw _⟩
    · rw [if_neg c2]
      by_cases c3 : Int.tmod a 23 = 22
      · rw [if_pos c3]; exact ⟨_, rfl, h1, h2⟩
      · rw [if_neg c3]
        by_cases c4 : Int.tmod a 23 = 19
        · rw [if_pos c4]; exact ⟨_, rfl, hw _⟩
        · rw [if_neg c4]; exact ⟨_, rfl, hw _⟩


theorem ref_money_t {a : Int} (h1 : -100000000000 ≤ a) (h2 : a ≤ 100000000000) : scutageref01_Money.f a = some true := by
  unfold scutageref01_Money.f; rw [if_pos (by omega), decide_eq_true (by omega)]

theorem ref_money_f {a : Int} (h : a < -100000000000 ∨ 100000000000 < a) : scutageref01_Money.f a = some false := by
  unfold scutageref01_Money.f
  by_cases c : a ≥ -100000000000
  · rw [if_pos c, decide_eq_false (by omega)]
  · rw [if_neg c]

theorem ref_income_t {b p m : Int} (h1 : -100000000000 ≤ b ∧ b ≤ 100000000000) (h2 : -100000000000 ≤ p ∧ p ≤ 100000000000) (h3 : -100000000000 ≤ m ∧ m ≤ 100000000000) (h4 : -100000000000 ≤ b + p - m ∧ b + p - m ≤ 100000000000) :
    scutageref09_Income.f b p m = some (b + p - m, true) := by
  unfold scutageref09_Income.f
  rw [ref_money_t h1.1 h1.2, ref_money_t h2.1 h2.2, ref_money_t h3.1 h3.2, Nums.w64 (n := b + p) (by omega) (by omega), Nums.w64 (n := b + p - m) (by omega) (by omega), ref_money_t h4.1 h4.2]
  rfl

theorem ref_income_f {b p m : Int} (h : b < -100000000000 ∨ 100000000000 < b ∨ p < -100000000000 ∨ 100000000000 < p ∨ m < -100000000000 ∨ 100000000000 < m ∨ b + p - m < -100000000000 ∨ 100000000000 < b + p - m) :
    scutageref09_Income.f b p m = some (0, false) := by
  unfold scutageref09_Income.f
  by_cases c1 : b < -100000000000 ∨ 100000000000 < b
  · rw [ref_money_f c1]; simp
  · rw [ref_money_t (a := b) (by omega) (by omega)]
    simp only [Option.bind_some, if_true]
    by_cases c2 : p < -100000000000 ∨ 100000000000 < p
    · rw [ref_money_f c2]; simp
    · rw [ref_money_t (a := p) (by omega) (by omega)]
      simp only [Option.bind_some, if_true]
      by_cases c3 : m < -100000000000 ∨ 100000000000 < m
      · rw [ref_money_f c3]; simp
      · rw [ref_money_t (a := m) (by omega) (by omega), Nums.w64 (n := b + p) (by omega) (by omega), Nums.w64 (n := b + p - m) (by omega) (by omega)]
        rw [ref_money_f (by omega)]; simp

theorem same_self (l : List S41) (hl : l.length ≤ 1000) (d : Nat) : ∀ (k i : Nat), i + d = l.length → d < k → api_Item.l0 k l l (i : Int) = some true := by
  induction d with
  | zero =>
    intro k i hi hk
    obtain ⟨k, rfl⟩ : ∃ m, k = m + 1 := ⟨k - 1, by omega⟩
    simp only [api_Item.l0]
    rw [if_neg (by omega)]
  | succ d ih =>
    intro k i hi hk
    obtain ⟨k, rfl⟩ : ∃ m, k = m + 1 := ⟨k - 1, by omega⟩
    simp only [api_Item.l0]
    rw [if_pos (by omega), if_pos (by omega), if_pos (by omega), if_neg (by simp), Nums.w64 (by omega) (by omega), show (i : Int) + 1 = ((i + 1 : Nat) : Int) by omega]
    exact ih k (i + 1) (by omega) (by omega)

theorem wakes_val : scutagelaw12_wakes.f 8 = some true := by decide +kernel

theorem BridgeTells : scutagelaw12_BridgeTells.Pure := by
  intro a0 a1 a2 w0 w1 w2
  refine ⟨9, ?_⟩
  obtain ⟨b, hb, b0, b1⟩ := amount a0 w0
  obtain ⟨p, hp, p0, p1⟩ := amount a1 w1
  obtain ⟨m, hm, m0, m1⟩ := amount a2 w2
  unfold scutagelaw12_BridgeTells.f bridge_Lines.f
  rw [hb, hp, hm]
  have hw := wakes_val
  simp only [Option.bind_some]
  by_cases c : b < -100000000000 ∨ 100000000000 < b ∨ p < -100000000000 ∨ 100000000000 < p ∨ m < -100000000000 ∨ 100000000000 < m ∨ b + p - m < -100000000000 ∨ 100000000000 < b + p - m
  · rw [income_f (by omega) c, ref_income_f c]
    simp [scutagelaw12_BridgeTells.j0, hw]
  · rw [income_t (by omega) (by omega) (by omega) (by omega) (by omega), ref_income_t (by omega) (by omega) (by omega) (by omega)]
    simp only [Option.bind_some, if_true, scutagelaw12_BridgeTells.j0, api_Item.f]
    have hs := same_self [⟨1, b⟩, ⟨2, p⟩, ⟨3, wrap64 (-m)⟩, ⟨4, b + p - m⟩] (by simp) 4 8 0 (by simp) (by omega)
    simp only [Int.natCast_zero] at hs
    simp [hs, hw]

end Go.Proofs.Ytalelfjjigfpeaa.Pure
