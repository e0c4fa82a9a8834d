/- Like weights, and weights all times as great. -/
import Derived.Test.YtejoijjmlglhfaaSplitSums
set_option linter.unusedSimpArgs false
set_option linter.unusedVariables false
namespace Go.Proofs.Ytejoijjmlglhfaa.Ev.CS
open Go

theorem mod_mul {x s t : Int} (ht : 0 < t) : x * t % (s * t) = x % s * t := by
  rw [Int.mul_comm x t, Int.mul_comm s t, Int.mul_emod_mul_of_pos _ _ ht, Int.mul_comm]
theorem idx_getD : ∀ {l : List Int} {k : Nat} {x : Int}, k < l.length → (∀ i, i < k → l.getD i 0 ≠ x) → l.getD k 0 = x → idx x l = k
  | a :: l, 0, x, _, _, e => by simp at e; simp [idx, e]
  | a :: l, k + 1, x, hk, hn, e => by
    have h0 := hn 0 (by omega)
    simp at h0
    have := idx_getD (l := l) (k := k) (x := x) (by simpa using hk) (fun i hi => by simpa using hn (i + 1) (by omega)) (by simpa using e)
    simp [idx, h0, this]

theorem even_inv {k : Nat} {Q r : Int} (hr : 0 ≤ r) : ∀ j : Nat, j ≤ k → ∀ i, i < k → (bumps j (List.replicate k Q, List.replicate k r)).1.getD i 0 = Q + (if i < j then 1 else 0) ∧ (bumps j (List.replicate k Q, List.replicate k r)).2.getD i 0 = if i < j then -1 else r
  | 0, _, i, hi => by
    simp [bumps, List.getD, List.getElem?_replicate, hi]
  | j + 1, hj, i, hi => by
    have ih := even_inv (k := k) (Q := Q) hr j (by omega)
    have hl := bumps_len j (List.replicate k Q, List.replicate k r)
    simp only [List.length_replicate] at hl
    show (bump (bumps j _)).1.getD i 0 = _ ∧ (bump (bumps j _)).2.getD i 0 = _
    generalize bumps j (List.replicate k Q, List.replicate k r) = S at *
    have hj' := ih j (by omega)
    rw [if_neg (by omega), if_neg (by omega)] at hj'
    have hm : maxL S.2 = r := by
      have hne : S.2 ≠ [] := fun e => by rw [e] at hl; simp at hl; omega
      have h1 := maxL_mem hne
      have h2 : r ≤ maxL S.2 := by
        have : S.2.getD j 0 ∈ S.2 := by rw [getD_at (by omega)]; exact List.getElem_mem _
        rw [hj'.2] at this
        exact le_maxL _ this
      obtain ⟨a, ha, e⟩ := List.mem_iff_getElem.1 h1
      have h3 := (ih a (by omega)).2
      rw [getD_at ha, e] at h3
      split at h3 <;> omega
    have hi2 : idx (maxL S.2) S.2 = j := by
      rw [hm]
      refine idx_getD (by omega) (fun a ha => ?_) hj'.2
      have := (ih a (by omega)).2
      rw [this, if_pos ha]
      omega
    unfold bump
    rw [hi2]
    simp only
    rw [getD_set (by omega), getD_set (by omega), hj'.1]
    have hii := ih i hi
    by_cases c : i = j
    · subst c
      simp
    · rw [if_neg c, if_neg c, hii.1, hii.2]
      by_cases d : i < j
      · simp [d, show i < j + 1 by omega]
      · simp [d, show ¬ i < j + 1 by omega]

theorem sum_replicate (k : Nat) (x : Int) : (List.replicate k x).sum = k * x := by
  induction k with
  | zero => simp
  | succ k ih => rw [List.replicate_succ, List.sum_cons, ih, Int.natCast_add, Int.add_mul]; omega

theorem even_at {n : Int} (hn : 0 ≤ n) {k i : Nat} (hi : i < k) : (splitP n (List.replicate k 7)).getD i 0 = n / k + (if (i : Int) < n % k then 1 else 0) := by
  have hk : (0 : Int) < k := by omega
  have es : (List.replicate k (7 : Int)).sum = k * 7 := sum_replicate k 7
  have eq : quos n (k * 7) (List.replicate k 7) = List.replicate k (n / k) := by
    unfold quos
    rw [List.map_replicate, Int.mul_ediv_mul_of_pos_left _ _ (by decide)]
  have er : rems n (k * 7) (List.replicate k 7) = List.replicate k (n % k * 7) := by
    unfold rems
    rw [List.map_replicate, mod_mul (by decide)]
  have e := Int.mul_ediv_add_emod n k
  have b0 := Int.emod_nonneg n (show (k : Int) ≠ 0 by omega)
  have b1 := Int.emod_lt_of_pos n hk
  unfold splitP
  rw [if_neg (by omega), es]
  unfold shareF
  rw [eq, er, sum_replicate]
  have em : n - (k : Int) * (n / k) = n % k := by omega
  rw [em]
  have := (even_inv (k := k) (Q := n / k) (r := n % k * 7) (by omega) (n % k).toNat (by omega) i hi).1
  rw [this]
  by_cases c : (i : Int) < n % k
  · rw [if_pos c, if_pos (by omega)]
  · rw [if_neg c, if_neg (by omega)]

def sc (t x : Int) : Int := if x < 0 then x else x * t
theorem sc_mono {t : Int} (ht : 0 < t) {a b : Int} (h : a ≤ b) : sc t a ≤ sc t b := by
  unfold sc
  by_cases ca : a < 0
  · rw [if_pos ca]
    by_cases cb : b < 0
    · rw [if_pos cb]; exact h
    · rw [if_neg cb]
      have := Int.mul_nonneg (show 0 ≤ b by omega) (Int.le_of_lt ht)
      omega
  · rw [if_neg ca, if_neg (by omega)]
    exact Int.mul_le_mul_of_nonneg_right h (Int.le_of_lt ht)
theorem sc_inj {t : Int} (ht : 0 < t) {a b : Int} (h : sc t a = sc t b) : a = b := by
  unfold sc at h
  by_cases ca : a < 0 <;> by_cases cb : b < 0
  · rwa [if_pos ca, if_pos cb] at h
  · rw [if_pos ca, if_neg cb] at h
    have := Int.mul_nonneg (show 0 ≤ b by omega) (Int.le_of_lt ht)
    omega
  · rw [if_neg ca, if_pos cb] at h
    have := Int.mul_nonneg (show 0 ≤ a by omega) (Int.le_of_lt ht)
    omega
  · rw [if_neg ca, if_neg cb] at h
    exact Int.eq_of_mul_eq_mul_right (by omega) h
theorem sc_max {t : Int} (ht : 0 < t) (a b : Int) : sc t (max a b) = max (sc t a) (sc t b) := by
  by_cases c : a ≤ b
  · have := sc_mono ht c
    rw [show max a b = b by omega]; omega
  · have := sc_mono ht (show b ≤ a by omega)
    rw [show max a b = a by omega]; omega
theorem foldl_sc {t : Int} (ht : 0 < t) : ∀ (l : List Int) (a : Int), (l.map (sc t)).foldl max (sc t a) = sc t (l.foldl max a)
  | [], a => rfl
  | x :: l, a => by
    rw [List.map_cons, List.foldl_cons, List.foldl_cons, ← sc_max ht, foldl_sc ht l]
theorem maxL_sc {t : Int} (ht : 0 < t) : ∀ l : List Int, maxL (l.map (sc t)) = sc t (maxL l)
  | [] => by simp [maxL, sc]
  | x :: l => foldl_sc ht l x
theorem idx_sc {t : Int} (ht : 0 < t) (x : Int) : ∀ l : List Int, idx (sc t x) (l.map (sc t)) = idx x l
  | [] => rfl
  | a :: l => by
    rw [List.map_cons]
    unfold idx
    rw [idx_sc ht x l]
    by_cases c : a = x
    · rw [if_pos c, if_pos (by rw [c])]
    · rw [if_neg c, if_neg (fun e => c (sc_inj ht e))]
theorem bumps_sc {t : Int} (ht : 0 < t) (q r : List Int) : ∀ n : Nat, bumps n (q, r.map (sc t)) = ((bumps n (q, r)).1, (bumps n (q, r)).2.map (sc t))
  | 0 => rfl
  | n + 1 => by
    show bump (bumps n _) = ((bump (bumps n (q, r))).1, (bump (bumps n (q, r))).2.map (sc t))
    rw [bumps_sc ht q r n]
    unfold bump
    simp only
    rw [maxL_sc ht, idx_sc ht, List.map_set]
    rfl
theorem sum_mul (t : Int) : ∀ w : List Int, (w.map (fun x => x * t)).sum = w.sum * t
  | [] => by simp
  | a :: w => by rw [List.map_cons, List.sum_cons, List.sum_cons, sum_mul t w, Int.add_mul]
theorem scale {n t : Int} (ht : 0 < t) (w : List Int) (hs : 0 < w.sum) : shareF n (w.map (fun x => x * t)).sum (w.map (fun x => x * t)) = shareF n w.sum w := by
  rw [sum_mul]
  have eq : quos n (w.sum * t) (w.map (fun x => x * t)) = quos n w.sum w := by
    unfold quos
    rw [List.map_map]
    refine List.map_congr_left fun x _ => ?_
    show n * (x * t) / (w.sum * t) = _
    rw [← Int.mul_assoc, Int.mul_ediv_mul_of_pos_left _ _ ht]
  have er : rems n (w.sum * t) (w.map (fun x => x * t)) = (rems n w.sum w).map (sc t) := by
    unfold rems
    rw [List.map_map, List.map_map]
    refine List.map_congr_left fun x _ => ?_
    show n * (x * t) % (w.sum * t) = sc t (n * x % w.sum)
    rw [← Int.mul_assoc, mod_mul ht]
    unfold sc
    rw [if_neg]
    have := Int.emod_nonneg (n * x) (show w.sum ≠ 0 by omega)
    omega
  unfold shareF
  rw [eq, er, bumps_sc ht]
theorem P_scale {n t : Int} (ht : 0 < t) (w : List Int) (hs : 0 < w.sum) : splitP n (w.map (fun x => x * t)) = splitP n w := by
  unfold splitP
  rw [scale ht w hs, scale ht w hs]
end Go.Proofs.Ytejoijjmlglhfaa.Ev.CS
