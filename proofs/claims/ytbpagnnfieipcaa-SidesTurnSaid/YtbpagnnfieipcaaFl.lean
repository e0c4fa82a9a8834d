/- Whole numbers below 2^53 as floats: their sums, their order, and back, are exact. -/
import Derived.Test.YtbpagnnfieipcaaEvKit
set_option linter.unusedSimpArgs false
set_option linter.unusedVariables false
namespace Go.Proofs.Ytbpagnnfieipcaa.Ev
open Go Ieee

theorem cut_zero (way : Toward) (neg : Bool) (n : Nat) : way.cut neg n 0 = n := by
  unfold Toward.cut
  simp only [Nat.zero_min, Nat.shiftLeft_zero, Nat.div_one, Nat.mod_one]
  cases way <;> simp
theorem cut_exact (way : Toward) (neg : Bool) (n d : Nat) (h : n ≠ 0) : way.cut neg (n * 2 ^ d) d = n := by
  unfold Toward.cut
  have hl : (n * 2 ^ d).log2 = n.log2 + d := by
    rw [Nat.log2_eq_iff (by have := Nat.two_pow_pos d; exact Nat.mul_ne_zero h (by omega))]
    have h1 := Nat.log2_self_le h
    have h2 := Nat.lt_log2_self (n := n)
    rw [Nat.pow_add, show n.log2 + d + 1 = (n.log2 + 1) + d by omega, Nat.pow_add]
    exact ⟨Nat.mul_le_mul_right _ h1, Nat.mul_lt_mul_of_pos_right h2 (Nat.two_pow_pos d)⟩
  have hm : min d ((n * 2 ^ d).log2 + 2) = d := by omega
  simp only [hm, Nat.one_shiftLeft, Nat.mul_div_cancel _ (Nat.two_pow_pos d), Nat.mul_mod_left]
  have : 0 < 2 ^ d := Nat.two_pow_pos d
  cases way <;> simp <;> omega

theorem log_mul (n k : Nat) (h : n ≠ 0) : (n * 2 ^ k).log2 = n.log2 + k := by
  rw [Nat.log2_eq_iff (by have := Nat.two_pow_pos k; exact Nat.mul_ne_zero h (by omega))]
  have h1 := Nat.log2_self_le h
  have h2 := Nat.lt_log2_self (n := n)
  rw [Nat.pow_add, show n.log2 + k + 1 = (n.log2 + 1) + k by omega, Nat.pow_add]
  exact ⟨Nat.mul_le_mul_right _ h1, Nat.mul_lt_mul_of_pos_right h2 (Nat.two_pow_pos k)⟩

/-- The rung of a whole number. -/
def rg (n : Nat) : Nat := if n = 0 then 0 else (n.log2 + 1022) * 2 ^ 52 + n * 2 ^ (52 - n.log2)
theorem log_lt {n : Nat} (h0 : n ≠ 0) (h : n < 2 ^ 53) : n.log2 ≤ 52 := by
  have := (Nat.log2_lt h0).2 h
  omega
theorem kept_bounds {n : Nat} (h0 : n ≠ 0) (h : n < 2 ^ 53) : 2 ^ 52 ≤ n * 2 ^ (52 - n.log2) ∧ n * 2 ^ (52 - n.log2) < 2 ^ 53 := by
  have hl := log_lt h0 h
  have h1 := Nat.log2_self_le h0
  have h2 := Nat.lt_log2_self (n := n)
  have e : 2 ^ n.log2 * 2 ^ (52 - n.log2) = 2 ^ 52 := by rw [← Nat.pow_add]; congr 1; omega
  have e2 : 2 ^ (n.log2 + 1) * 2 ^ (52 - n.log2) = 2 ^ 53 := by rw [← Nat.pow_add]; congr 1; omega
  rw [← e, ← e2]
  exact ⟨Nat.mul_le_mul_right _ h1, Nat.mul_lt_mul_of_pos_right h2 (Nat.two_pow_pos _)⟩

theorem nearest_rg {n : Nat} (h : n < 2 ^ 53) (k : Nat) : Format.nearest double false (n * 2 ^ k) (-(k : Int)) = rg n := by
  unfold Format.nearest rg
  by_cases h0 : n = 0
  · subst h0; simp [Format.word]
  · have hl := log_lt h0 h
    have hk := kept_bounds h0 h
    have hne : n * 2 ^ k ≠ 0 := Nat.mul_ne_zero h0 (by have := Nat.two_pow_pos k; omega)
    rw [if_neg hne, if_neg h0, log_mul n k h0]
    have hlp : double.leastPlace = -1074 := by decide
    have hfb : (double.fractionBits : Int) = 52 := rfl
    have hlast : max (-(k : Int) + ((n.log2 + k : Nat) : Int) - double.fractionBits) (-1074) = (n.log2 : Int) - 52 := by
      rw [hfb]; omega
    simp only [hlp, hlast]
    have hb : double.binade = 2 ^ 52 := by decide
    have hi : double.infRung = 2047 * 2 ^ 52 := by decide
    have hcut : Toward.even.cut false ((n * 2 ^ k) <<< (-(k : Int) - ((n.log2 : Int) - 52)).toNat) ((n.log2 : Int) - 52 - -(k : Int)).toNat = n * 2 ^ (52 - n.log2) := by
      by_cases c : k ≤ 52 - n.log2
      · have e1 : (-(k : Int) - ((n.log2 : Int) - 52)).toNat = 52 - n.log2 - k := by omega
        have e2 : ((n.log2 : Int) - 52 - -(k : Int)).toNat = 0 := by omega
        rw [e1, e2, cut_zero, Nat.shiftLeft_eq, Nat.mul_assoc, ← Nat.pow_add]
        congr 2; omega
      · have e1 : (-(k : Int) - ((n.log2 : Int) - 52)).toNat = 0 := by omega
        have e2 : ((n.log2 : Int) - 52 - -(k : Int)).toNat = k - (52 - n.log2) := by omega
        rw [e1, e2, Nat.shiftLeft_zero]
        have e3 : n * 2 ^ k = n * 2 ^ (52 - n.log2) * 2 ^ (k - (52 - n.log2)) := by
          rw [Nat.mul_assoc, ← Nat.pow_add]; congr 2; omega
        rw [e3, cut_exact _ _ _ _ (by omega)]
    rw [hcut, hb, hi]
    have e4 : ((n.log2 : Int) - 52 - -1074).toNat = n.log2 + 1022 := by omega
    have hw : ∀ r, double.word false r = r := fun r => if_neg (by decide)
    rw [e4, hw, Nat.min_eq_left]
    · have h1 : (n.log2 + 1022) * 2 ^ 52 ≤ 1074 * 2 ^ 52 := Nat.mul_le_mul_right _ (by omega)
      exact Nat.le_trans (Nat.add_le_add h1 (Nat.le_of_lt hk.2)) (by decide)

/-- A whole number's float. -/
def fl (n : Nat) : Nat := FloatKind.f64.nearest (n : Int)
theorem fl_rg {n : Nat} (h : n < 2 ^ 53) : fl n = rg n := by
  have := nearest_rg h 0
  simp only [Nat.pow_zero, Nat.mul_one] at this
  unfold fl FloatKind.nearest FloatKind.encode FloatKind.format Format.write
  have e : decide ((n : Int) < 0) = false := by simp
  simp only [e, Int.natAbs_natCast]
  exact this

theorem read_rg {n : Nat} (h : n < 2 ^ 53) : ∃ m k : Nat, double.read (rg n) = .number false m (-(k : Int)) ∧ m = n * 2 ^ k := by
  have hb : double.binade = 2 ^ 52 := by decide
  have hi : double.infRung = 2047 * 2 ^ 52 := by decide
  have hs : double.signWeight = 2 ^ 63 := by decide
  have hlp : double.leastPlace = -1074 := by decide
  unfold Format.read rg
  rw [hs, hb, hi, hlp]
  by_cases h0 : n = 0
  · subst h0
    have key : ∀ k : Nat, (0 : Nat) = 0 * 2 ^ k := fun k => (Nat.zero_mul _).symm
    exact ⟨0, 1074, by simp, key 1074⟩
  · have hl := log_lt h0 h
    have hk := kept_bounds h0 h
    rw [if_neg h0]
    obtain ⟨q, hq⟩ : ∃ q, q = n * 2 ^ (52 - n.log2) := ⟨_, rfl⟩
    rw [← hq] at hk ⊢
    obtain ⟨e, he⟩ : ∃ e, e = n.log2 := ⟨_, rfl⟩
    rw [← he] at hl hq ⊢
    have hlt : (e + 1022) * 2 ^ 52 + q < 2 ^ 63 := by omega
    have h1 : ((e + 1022) * 2 ^ 52 + q) / 2 ^ 63 = 0 := Nat.div_eq_of_lt hlt
    have h2 : ((e + 1022) * 2 ^ 52 + q) % 2 ^ 63 = (e + 1022) * 2 ^ 52 + q := Nat.mod_eq_of_lt hlt
    simp only [h1, h2]
    rw [if_neg (by omega), if_pos (by omega)]
    have h3 : ((e + 1022) * 2 ^ 52 + q) % 2 ^ 52 = q - 2 ^ 52 := by omega
    have h4 : ((e + 1022) * 2 ^ 52 + q) / 2 ^ 52 = e + 1023 := by omega
    refine ⟨q, 52 - e, ?_, hq⟩
    rw [h3, h4]
    have h5 : 2 ^ 52 + (q - 2 ^ 52) = q := by omega
    rw [h5]
    have h6 : (-1074 + ((e + 1023 - 1 : Nat) : Int)) = -((52 - e : Nat) : Int) := by omega
    rw [h6]
    rfl

theorem signed_up (m k : Nat) : signed false m k = ((m * 2 ^ k : Nat) : Int) := by
  unfold signed
  simp [Nat.shiftLeft_eq]
theorem up_eq (n k j : Nat) (h : k ≤ j) (hb : (-(k : Int) - -(j : Int)).toNat = j - k) : n * 2 ^ k * 2 ^ (j - k) = n * 2 ^ j := by
  rw [Nat.mul_assoc, ← Nat.pow_add]; congr 2; omega

theorem fl_add {n m : Nat} (h : n + m < 2 ^ 53) : FloatKind.f64.format.add (fl n) (fl m) = some (fl (n + m)) := by
  rw [fl_rg (n := n) (by omega), fl_rg (n := m) (by omega), fl_rg h]
  obtain ⟨a, k, e1, rfl⟩ := read_rg (n := n) (by omega)
  obtain ⟨b, j, e2, rfl⟩ := read_rg (n := m) (by omega)
  show Option.map double.write ((double.read (rg n)).sum (double.read (rg m))) = _
  rw [e1, e2]
  unfold Datum.sum
  simp only [signed_up]
  obtain ⟨t, ht⟩ : ∃ t, t = max k j := ⟨_, rfl⟩
  have hbase : min (-(k : Int)) (-(j : Int)) = -(t : Int) := by omega
  rw [hbase]
  have c1 : (-(k : Int) - -(t : Int)).toNat = t - k := by omega
  have c2 : (-(j : Int) - -(t : Int)).toNat = t - j := by omega
  rw [c1, c2]
  have d1 : n * 2 ^ k * 2 ^ (t - k) = n * 2 ^ t := by rw [Nat.mul_assoc, ← Nat.pow_add]; congr 2; omega
  have d2 : m * 2 ^ j * 2 ^ (t - j) = m * 2 ^ t := by rw [Nat.mul_assoc, ← Nat.pow_add]; congr 2; omega
  rw [d1, d2, ← Int.natCast_add, ← Nat.add_mul]
  have hneg : (if (((n + m) * 2 ^ t : Nat) : Int) = 0 then false && false else decide ((((n + m) * 2 ^ t : Nat) : Int) < 0)) = false := by
    split
    · rfl
    · rw [decide_eq_false]; omega
  rw [hneg, Int.natAbs_natCast]
  simp only [Option.map_some, Format.write]
  rw [nearest_rg h]

theorem fl_order {n m : Nat} (hn : n < 2 ^ 53) (hm : m < 2 ^ 53) : (FloatKind.f64.format.order (fl n) (fl m) == some .eq) = decide (n = m) := by
  rw [fl_rg hn, fl_rg hm]
  obtain ⟨a, k, e1, rfl⟩ := read_rg hn
  obtain ⟨b, j, e2, rfl⟩ := read_rg hm
  show ((double.read (rg n)).order (double.read (rg m)) == some .eq) = _
  rw [e1, e2]
  unfold Datum.order
  simp only [signed_up]
  obtain ⟨t, ht⟩ : ∃ t, t = max k j := ⟨_, rfl⟩
  have hbase : min (-(k : Int)) (-(j : Int)) = -(t : Int) := by omega
  rw [hbase]
  have c1 : (-(k : Int) - -(t : Int)).toNat = t - k := by omega
  have c2 : (-(j : Int) - -(t : Int)).toNat = t - j := by omega
  rw [c1, c2]
  have d1 : n * 2 ^ k * 2 ^ (t - k) = n * 2 ^ t := by rw [Nat.mul_assoc, ← Nat.pow_add]; congr 2; omega
  have d2 : m * 2 ^ j * 2 ^ (t - j) = m * 2 ^ t := by rw [Nat.mul_assoc, ← Nat.pow_add]; congr 2; omega
  rw [d1, d2]
  by_cases e : n = m
  · subst e
    rw [decide_eq_true rfl]
    simp [compare, compareOfLessAndEq]
  · rw [decide_eq_false e]
    have hne : ((n * 2 ^ t : Nat) : Int) ≠ ((m * 2 ^ t : Nat) : Int) := by
      intro he
      exact e (Nat.eq_of_mul_eq_mul_right (Nat.two_pow_pos t) (by omega))
    simp only [compare, compareOfLessAndEq]
    split
    · rfl
    · first
        | rfl
        | (rw [if_neg hne]; rfl)

theorem fl_int {n : Nat} (h : n < 2 ^ 53) : (FloatKind.f64.decode (fl n)).toInt .zero = some (n : Int) := by
  rw [fl_rg h]
  obtain ⟨a, k, e1, rfl⟩ := read_rg h
  show (double.read (rg n)).toInt .zero = _
  rw [e1]
  unfold Datum.toInt Datum.integral
  simp only
  have c1 : (-(k : Int)).toNat = 0 := by omega
  have c2 : (- -(k : Int)).toNat = k := by omega
  rw [c1, c2, Nat.shiftLeft_zero]
  by_cases h0 : n = 0
  · subst h0
    simp [Toward.cut, signed]
  · rw [cut_exact _ _ _ _ h0]
    simp [signed]

theorem fl_zero : fl 0 = 0 := by rw [fl_rg (by omega)]; rfl
/-- A pair of sides. -/
abbrev cx (d c : Nat) : SV := .cpl .f64 (fl d) (fl c)
theorem cpl_add {a b c d : Nat} (h1 : a + c < 9007199254740992) (h2 : b + d < 9007199254740992) : cplOp .add (fl a) (fl b) (fl c) (fl d) = some (cx (a + c) (b + d)) := by
  unfold cplOp
  rw [fl_add h1, fl_add h2]
theorem cpl_eql {a b c d : Nat} (h1 : a < 9007199254740992) (h2 : b < 9007199254740992) (h3 : c < 9007199254740992) (h4 : d < 9007199254740992) : cplOp .eql (fl a) (fl b) (fl c) (fl d) = some (.bool (decide (a = c) && decide (b = d))) := by
  unfold cplOp
  rw [fl_order h1 h3, fl_order h2 h4]
theorem cpl_neq {a b c d : Nat} (h1 : a < 9007199254740992) (h2 : b < 9007199254740992) (h3 : c < 9007199254740992) (h4 : d < 9007199254740992) : cplOp .neq (fl a) (fl b) (fl c) (fl d) = some (.bool (!(decide (a = c) && decide (b = d)))) := by
  unfold cplOp
  rw [fl_order h1 h3, fl_order h2 h4]
theorem flt_eql {a b : Nat} (h1 : a < 9007199254740992) (h2 : b < 9007199254740992) : fltOp .eql (fl a) (fl b) = some (.bool (decide (a = b))) := by
  unfold fltOp
  rw [fl_order h1 h2]
end Go.Proofs.Ytbpagnnfieipcaa.Ev
