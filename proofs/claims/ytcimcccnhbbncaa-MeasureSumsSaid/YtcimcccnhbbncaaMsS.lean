/- Sums of parts: the pure part. -/
import Derived.Test.YtcimcccnhbbncaaRegD
set_option linter.unusedSimpArgs false
set_option linter.unusedVariables false
namespace Go.Proofs.Ytcimcccnhbbncaa.Ev.CE
open Go

theorem ofF_pos {n r : Int} (hn : 0 ≤ n) (hr : 0 ≤ r) : ofF n r = (2 * (n * r) + 1000000) / 2000000 := by
  unfold ofF
  rw [if_neg (by omega)]
  have : 0 ≤ n * r := Int.mul_nonneg hn hr
  have e : 2 * n * r = 2 * (n * r) := Int.mul_assoc _ _ _
  rw [e, Int.tdiv_eq_ediv_of_nonneg (by omega)]
theorem ofF_negative {n r : Int} (hn : n < 0) (hr : 0 ≤ r) : ofF n r = -((2 * ((-n) * r) + 1000000) / 2000000) := by
  unfold ofF
  rw [if_pos hn]
  have : 0 ≤ (-n) * r := Int.mul_nonneg (by omega) hr
  have e : 2 * n * r = -(2 * ((-n) * r)) := by rw [Int.mul_assoc, Int.neg_mul]; omega
  rw [e, show -(2 * ((-n) * r)) - 1000000 = -(2 * ((-n) * r) + 1000000) by omega, Int.neg_tdiv, Int.tdiv_eq_ediv_of_nonneg (by omega)]
theorem half_le {m : Int} {x : Int} (h1 : 0 ≤ x) (h2 : x ≤ m * 1000000) : 0 ≤ (2 * x + 1000000) / 2000000 ∧ (2 * x + 1000000) / 2000000 ≤ m := by omega
theorem ofF_le {n r : Int} (hn : -100000000000 ≤ n ∧ n ≤ 100000000000) (hr : 0 ≤ r ∧ r ≤ 1000000) : -100000000000 ≤ ofF n r ∧ ofF n r ≤ 100000000000 := by
  by_cases h : 0 ≤ n
  · rw [ofF_pos h hr.1]
    have := half_le (m := n) (x := n * r) (Int.mul_nonneg h hr.1) (Int.mul_le_mul_of_nonneg_left hr.2 h)
    omega
  · rw [ofF_negative (by omega) hr.1]
    have := half_le (m := -n) (x := (-n) * r) (Int.mul_nonneg (by omega) hr.1) (Int.mul_le_mul_of_nonneg_left hr.2 (by omega))
    omega
theorem ofF_neg (n : Int) {r : Int} (hr : 0 ≤ r) : ofF (-n) r = -ofF n r := by
  by_cases h0 : n = 0
  · subst h0; rw [Int.neg_zero, ofF_pos (Int.le_refl _) hr, Int.zero_mul]; rfl
  · by_cases h : 0 ≤ n
    · rw [ofF_pos h hr, ofF_negative (by omega) hr, Int.neg_neg]
    · rw [ofF_pos (by omega) hr, ofF_negative (by omega) hr, Int.neg_neg]
theorem ofF_zero (n : Int) : ofF n 0 = 0 := by
  by_cases h : 0 ≤ n
  · rw [ofF_pos h (Int.le_refl _), Int.mul_zero]; rfl
  · rw [ofF_negative (by omega) (Int.le_refl _), Int.mul_zero]; rfl
theorem ofF_one (n : Int) : ofF n 1000000 = n := by
  by_cases h : 0 ≤ n
  · rw [ofF_pos h (by omega)]; omega
  · rw [ofF_negative (by omega) (by omega)]; omega

def fs (r : Int) (l : List Bu) : Int := (l.map fun b => ofF b.a r).sum
def turn (l : List Bu) : List Bu := l.map fun b => ⟨b.c, b.y, -b.a⟩
theorem fs_snoc (r : Int) (l : List Bu) (b : Bu) : fs r (l ++ [b]) = fs r l + ofF b.a r := by simp [fs]
theorem amts_snoc (l : List Bu) (b : Bu) : (amts (l ++ [b])).sum = (amts l).sum + b.a := by simp [amts]
theorem fs_zero : ∀ l : List Bu, fs 0 l = 0
  | [] => rfl
  | b :: l => by
    have := fs_zero l
    unfold fs at *
    rw [List.map_cons, List.sum_cons, this, ofF_zero]; rfl
theorem fs_one : ∀ l : List Bu, fs 1000000 l = (amts l).sum
  | [] => rfl
  | b :: l => by
    have := fs_one l
    unfold fs amts at *
    rw [List.map_cons, List.sum_cons, this, ofF_one]; rfl
theorem fs_turn {r : Int} (hr : 0 ≤ r) : ∀ l : List Bu, fs r (turn l) = -fs r l
  | [] => rfl
  | b :: l => by
    have := fs_turn hr l
    unfold fs turn at *
    rw [List.map_cons, List.map_cons, List.sum_cons, this, ofF_neg _ hr, List.map_cons, List.sum_cons]; omega
theorem fs_bound {r : Int} (hr : 0 ≤ r ∧ r ≤ 1000000) : ∀ {l : List Bu}, (∀ b ∈ l, -100000000000 ≤ b.a ∧ b.a ≤ 100000000000) → -100000000000 * (l.length : Int) ≤ fs r l ∧ fs r l ≤ 100000000000 * l.length
  | [], _ => by simp [fs]
  | b :: l, h => by
    have := fs_bound hr (l := l) fun x hx => h x (List.mem_cons_of_mem _ hx)
    have := ofF_le (h b List.mem_cons_self) hr
    unfold fs at *
    rw [List.map_cons, List.sum_cons, List.length_cons]; omega
theorem go_all {r : Int} (hr : right r = true) : ∀ (bs : List Bu) (n : Int), (∀ b ∈ bs, money b.a = true) → tempGo n bs (List.replicate bs.length r) = if money (n - fs r bs) then (n - fs r bs, 0) else (0, 6)
  | [], n, _ => by
    show tempGo n [] [] = _
    rw [tempGo_nil]
    simp [fs]
  | b :: bs, n, h => by
    rw [List.length_cons, List.replicate_succ, tempGo_cons, hr, h b List.mem_cons_self]
    simp only [Bool.and_self, if_true]
    rw [go_all hr bs _ fun x hx => h x (List.mem_cons_of_mem _ hx)]
    have e : n - ofF b.a r - fs r bs = n - fs r (b :: bs) := by
      unfold fs
      rw [List.map_cons, List.sum_cons]; omega
    rw [e]
theorem temp_all {r : Int} (hr : right r = true) (bs : List Bu) (h : ∀ b ∈ bs, money b.a = true) : tempF bs (List.replicate bs.length r) = if money (-fs r bs) then (-fs r bs, 0) else (0, 6) := by
  unfold tempF
  rw [if_neg (by simp), go_all hr bs 0 h]
  simp

def mix (k n : Nat) (x : Int) : List Int := List.replicate k x ++ List.replicate (n - k) 0
theorem mix_len {k n : Nat} (h : k ≤ n) (x : Int) : (mix k n x).length = n := by simp [mix]; omega
theorem mix_zero (n : Nat) (x : Int) : mix 0 n x = List.replicate n 0 := by simp [mix]
theorem mix_all (n : Nat) (x : Int) : mix n n x = List.replicate n x := by simp [mix]
theorem mix_set {k n : Nat} (h : k < n) (x : Int) : (mix k n x).set k x = mix (k + 1) n x := by
  unfold mix
  have e : n - k = (n - (k + 1)) + 1 := by omega
  rw [e, List.replicate_succ, List.set_append_right _ _ (by simp), List.length_replicate, Nat.sub_self, List.set_cons_zero, List.replicate_succ', List.append_assoc]; rfl
theorem turn_set {rows : List Bu} {k : Nat} (h : k < rows.length) : (turn (rows.take k) ++ rows.drop k).set k ⟨rows[k].c, rows[k].y, -rows[k].a⟩ = turn (rows.take (k + 1)) ++ rows.drop (k + 1) := by
  have l : (turn (rows.take k)).length = k := by simp [turn]; omega
  rw [List.drop_eq_getElem_cons h, List.set_append_right _ _ (by omega), l, Nat.sub_self, List.set_cons_zero, List.take_succ_eq_append_getElem h]
  simp only [turn, List.map_append, List.map_cons, List.map_nil, List.append_assoc, List.cons_append, List.nil_append]
theorem turn_get {rows : List Bu} {k : Nat} (h : k < rows.length) (h' : k < (turn (rows.take k) ++ rows.drop k).length) : (turn (rows.take k) ++ rows.drop k)[k] = rows[k] := by
  have l : (turn (rows.take k)).length = k := by simp [turn]; omega
  rw [List.getElem_append_right (by omega)]
  simp [l]
theorem turn_money {l : List Bu} (h : ∀ b ∈ l, money b.a = true) : ∀ b ∈ turn l, money b.a = true := by
  intro b hb
  obtain ⟨x, hx, rfl⟩ := List.mem_map.1 hb
  have := of_decide_eq_true (h x hx)
  exact decide_eq_true (by show -100000000000 ≤ -x.a ∧ -x.a ≤ 100000000000; omega)
end Go.Proofs.Ytcimcccnhbbncaa.Ev.CE
