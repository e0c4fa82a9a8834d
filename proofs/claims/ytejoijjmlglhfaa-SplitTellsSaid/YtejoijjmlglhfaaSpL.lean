/- What parts come to. -/
import Derived.Test.YtejoijjmlglhfaaSpD
set_option linter.unusedSimpArgs false
set_option linter.unusedVariables false
namespace Go.Proofs.Ytejoijjmlglhfaa.Ev.CS
open Go

theorem getD_at {l : List Int} {i : Nat} (h : i < l.length) : l.getD i 0 = l[i] := by simp [List.getD, h]
theorem getD_set {l : List Int} {i : Nat} (h : i < l.length) (x : Int) (j : Nat) : (l.set i x).getD j 0 = if j = i then x else l.getD j 0 := by
  simp only [List.getD, List.getElem?_set]
  by_cases e : i = j
  · subst e; simp [h]
  · simp [e, Ne.symm e]
theorem sum_set : ∀ {l : List Int} {i : Nat} (h : i < l.length) (x : Int), (l.set i x).sum = l.sum - l.getD i 0 + x
  | a :: l, 0, _, x => by simp; omega
  | a :: l, i + 1, h, x => by
    have := sum_set (l := l) (i := i) (by simpa using h) x
    simp only [List.set_cons_succ, List.sum_cons, this, List.getD_cons_succ]
    omega
theorem pos_mem : ∀ {l : List Int}, 0 < l.sum → ∃ x ∈ l, 0 < x
  | [], h => by simp at h
  | a :: l, h => by
    by_cases c : 0 < a
    · exact ⟨a, List.mem_cons_self, c⟩
    · simp only [List.sum_cons] at h
      obtain ⟨x, h1, h2⟩ := pos_mem (l := l) (by omega)
      exact ⟨x, List.mem_cons_of_mem _ h1, h2⟩

structure Inv (q r : List Int) (s m : Int) (k : Nat) (S : List Int × List Int) : Prop where
  l1 : S.1.length = q.length
  l2 : S.2.length = q.length
  each : ∀ i, i < q.length → (S.2.getD i 0 = r.getD i 0 ∧ S.1.getD i 0 = q.getD i 0) ∨ (S.2.getD i 0 = -1 ∧ S.1.getD i 0 = q.getD i 0 + 1 ∧ 0 < r.getD i 0)
  sum : S.1.sum = q.sum + k
  rs : (m - k) * s ≤ S.2.sum
  ord : ∀ i j, i < q.length → j < q.length → S.2.getD i 0 = -1 → S.2.getD j 0 ≠ -1 → r.getD j 0 ≤ r.getD i 0

theorem Inv.step {q r : List Int} {s m : Int} {k : Nat} {S : List Int × List Int} (I : Inv q r s m k S) (hs : 0 < s) (hr : ∀ i, i < q.length → 0 ≤ r.getD i 0 ∧ r.getD i 0 < s) (hk : (k : Int) < m) : Inv q r s m (k + 1) (bump S) := by
  have hp : 0 < (m - k) * s := Int.mul_pos (by omega) hs
  obtain ⟨x, hx, hx0⟩ := pos_mem (l := S.2) (by have := I.rs; omega)
  have hne : S.2 ≠ [] := List.ne_nil_of_mem hx
  have hm := maxL_mem hne
  have hmax := le_maxL (l := S.2)
  have hM : 0 < maxL S.2 := by have := hmax x hx; omega
  obtain ⟨i1, i2⟩ := idx_lt hm
  unfold bump
  generalize maxL S.2 = M at *
  generalize idx M S.2 = i at *
  have hi : i < q.length := by have := I.l2; omega
  have hi1 : i < S.1.length := by have := I.l1; omega
  have eR : S.2.getD i 0 = M := by simp [List.getD, i2]
  have hmax' : ∀ j, j < q.length → S.2.getD j 0 ≤ M := by
    intro j hj
    have hj' : j < S.2.length := by have := I.l2; omega
    rw [getD_at hj']
    exact hmax _ (List.getElem_mem hj')
  have hi' : S.2.getD i 0 = r.getD i 0 ∧ S.1.getD i 0 = q.getD i 0 := by
    rcases I.each i hi with h | h
    · exact h
    · omega
  have hri := hr i hi
  refine ⟨by simpa using I.l1, by simpa using I.l2, fun j hj => ?_, ?_, ?_, fun a b ha hb h1 h2 => ?_⟩
  · simp only
    rw [getD_set i1, getD_set hi1]
    by_cases c : j = i
    · subst c
      rw [if_pos rfl, if_pos rfl]
      right
      omega
    · rw [if_neg c, if_neg c]
      exact I.each j hj
  · simp only
    rw [sum_set hi1, I.sum]
    omega
  · simp only
    rw [sum_set i1, eR]
    have e : (m - ((k + 1 : Nat) : Int)) * s = (m - k) * s - s := by
      rw [show m - ((k + 1 : Nat) : Int) = (m - k) - 1 by omega, Int.sub_mul, Int.one_mul]
    rw [e]
    have := I.rs
    omega
  · simp only at h1 h2
    rw [getD_set i1] at h1 h2
    have hb2 : b ≠ i := fun e => by rw [if_pos e] at h2; exact h2 rfl
    rw [if_neg hb2] at h2
    have hbr : S.2.getD b 0 = r.getD b 0 := by
      rcases I.each b hb with h | h
      · exact h.1
      · exact absurd h.1 h2
    by_cases c : a = i
    · subst c
      have := hmax' b hb
      omega
    · rw [if_neg c] at h1
      exact I.ord a b ha hb h1 h2

theorem Inv.all {q r : List Int} {s m : Int} (hs : 0 < s) (hl : r.length = q.length) (hr : ∀ i, i < q.length → 0 ≤ r.getD i 0 ∧ r.getD i 0 < s) (h0 : m * s ≤ r.sum) : ∀ k : Nat, (k : Int) ≤ m → Inv q r s m k (bumps k (q, r))
  | 0, _ => by
    refine ⟨rfl, hl, fun i hi => .inl ⟨rfl, rfl⟩, by simp [bumps], by simpa [bumps] using h0, fun i j hi hj h1 h2 => ?_⟩
    have := hr i hi
    simp only [bumps] at h1
    omega
  | k + 1, hk => (Inv.all hs hl hr h0 k (by omega)).step hs hr (by omega)

theorem sum_quo_rem (n s : Int) : ∀ w : List Int, n * w.sum = s * (quos n s w).sum + (rems n s w).sum
  | [] => by simp [quos, rems]
  | a :: w => by
    have h1 := sum_quo_rem n s w
    have h2 := Int.mul_ediv_add_emod (n * a) s
    have e1 : (quos n s (a :: w)).sum = n * a / s + (quos n s w).sum := rfl
    have e2 : (rems n s (a :: w)).sum = n * a % s + (rems n s w).sum := rfl
    rw [e1, e2, List.sum_cons, Int.mul_add, Int.mul_add]
    omega
theorem rem_at (n s : Int) (w : List Int) (hs : 0 < s) : ∀ i, i < (quos n s w).length → 0 ≤ (rems n s w).getD i 0 ∧ (rems n s w).getD i 0 < s := by
  intro i hi
  have hi' : i < (rems n s w).length := by simp [rems, quos] at hi ⊢; exact hi
  rw [getD_at hi']
  simp only [rems, List.getElem_map]
  exact ⟨Int.emod_nonneg _ (by omega), Int.emod_lt_of_pos _ hs⟩

theorem rems_sum_nonneg (n s : Int) (w : List Int) (hs : 0 < s) : 0 ≤ (rems n s w).sum := by
  refine sum_nonneg fun x hx => ?_
  obtain ⟨y, _, rfl⟩ := List.mem_map.1 hx
  exact Int.emod_nonneg _ (by omega)
/-- What is left to hand out, and that it is handed out. -/
theorem share_inv {n : Int} {w : List Int} (hs : 0 < w.sum) : ∃ m : Int, 0 ≤ m ∧ m = n - (quos n w.sum w).sum ∧ m * w.sum = (rems n w.sum w).sum ∧ shareF n w.sum w = (bumps m.toNat (quos n w.sum w, rems n w.sum w)).1 ∧ Inv (quos n w.sum w) (rems n w.sum w) w.sum m m.toNat (bumps m.toNat (quos n w.sum w, rems n w.sum w)) := by
  have e := sum_quo_rem n w.sum w
  have em : (n - (quos n w.sum w).sum) * w.sum = (rems n w.sum w).sum := by
    rw [Int.sub_mul, e, Int.mul_comm w.sum]; omega
  have h0 := rems_sum_nonneg n w.sum w hs
  have hm : 0 ≤ n - (quos n w.sum w).sum := by
    rcases Int.lt_or_le (n - (quos n w.sum w).sum) 0 with c | c
    · have := Int.mul_neg_of_neg_of_pos c hs
      omega
    · exact c
  refine ⟨_, hm, rfl, em, rfl, ?_⟩
  exact Inv.all hs (by simp [quos, rems]) (rem_at n w.sum w hs) (by omega) _ (by omega)

theorem share_sum {n : Int} {w : List Int} (hs : 0 < w.sum) : (shareF n w.sum w).sum = n := by
  obtain ⟨m, h0, h1, _, h2, I⟩ := share_inv (n := n) hs
  rw [h2, I.sum]; omega
/-- One part. -/
theorem share_at {n : Int} {w : List Int} (hs : 0 < w.sum) {i : Nat} (hi : i < w.length) :
    ∃ q r, n * w[i] = w.sum * q + r ∧ q = n * w[i] / w.sum ∧ r = n * w[i] % w.sum ∧ 0 ≤ r ∧ r < w.sum ∧ ((shareF n w.sum w).getD i 0 = q ∨ (shareF n w.sum w).getD i 0 = q + 1 ∧ 0 < r) := by
  obtain ⟨m, h0, h1, _, h2, I⟩ := share_inv (n := n) hs
  have hq : i < (quos n w.sum w).length := by simpa [quos] using hi
  have hr : i < (rems n w.sum w).length := by simpa [rems] using hi
  have e := I.each i hq
  have b := rem_at n w.sum w hs i hq
  rw [getD_at hr, getD_at hq] at e
  rw [getD_at hr] at b
  simp only [quos, rems, List.getElem_map] at e b
  refine ⟨_, _, (Int.mul_ediv_add_emod _ _).symm, rfl, rfl, b.1, b.2, ?_⟩
  rw [h2]
  rcases e with e | e
  · exact .inl e.2
  · exact .inr e.2
theorem share_off {n : Int} {w : List Int} (hs : 0 < w.sum) {i : Nat} (hi : i < w.length) : -w.sum < n * w[i] - (shareF n w.sum w).getD i 0 * w.sum ∧ n * w[i] - (shareF n w.sum w).getD i 0 * w.sum < w.sum := by
  obtain ⟨q, r, h1, _, _, h2, h3, h4⟩ := share_at (n := n) hs hi
  rw [h1]
  rcases h4 with h4 | ⟨h4, h5⟩
  · rw [h4, Int.mul_comm q]; omega
  · rw [h4, Int.add_mul, Int.one_mul, Int.mul_comm q]; omega
theorem share_mono {n : Int} {w : List Int} (hn : 0 ≤ n) (hs : 0 < w.sum) {i k : Nat} (hi : i < w.length) (hk : k < w.length) (h : w[i] < w[k]) : (shareF n w.sum w).getD i 0 ≤ (shareF n w.sum w).getD k 0 := by
  obtain ⟨m, h0, h1, _, h2, I⟩ := share_inv (n := n) hs
  have hq : i < (quos n w.sum w).length := by simpa [quos] using hi
  have hr : i < (rems n w.sum w).length := by simpa [rems] using hi
  have hq' : k < (quos n w.sum w).length := by simpa [quos] using hk
  have hr' : k < (rems n w.sum w).length := by simpa [rems] using hk
  have e := I.each i hq
  have e' := I.each k hq'
  have o := I.ord i k hq hq'
  have b := rem_at n w.sum w hs i hq
  have b' := rem_at n w.sum w hs k hq'
  rw [getD_at hr, getD_at hq] at e
  rw [getD_at hr', getD_at hq'] at e'
  rw [getD_at hr, getD_at hr'] at o
  rw [getD_at hr] at b
  rw [getD_at hr'] at b'
  have hle : n * w[i] ≤ n * w[k] := Int.mul_le_mul_of_nonneg_left (Int.le_of_lt h) hn
  have d := Int.ediv_le_ediv hs hle
  have x1 := Int.mul_ediv_add_emod (n * w[i]) w.sum
  have x2 := Int.mul_ediv_add_emod (n * w[k]) w.sum
  rw [h2]
  simp only [quos, rems, List.getElem_map] at e e' o b b' ⊢
  by_cases c : n * w[i] / w.sum = n * w[k] / w.sum
  · rw [c] at x1
    rcases e with e | e
    · rcases e' with e' | e' <;> omega
    · rcases e' with e' | e'
      · have := o e.1 (by omega)
        have hz : n * w[i] = n * w[k] := by omega
        have hn0 : n = 0 := by
          have : n * (w[k] - w[i]) = 0 := by rw [Int.mul_sub]; omega
          rcases Int.mul_eq_zero.1 this with h | h <;> omega
        subst hn0
        simp at e
      · omega
  · rcases e with e | e <;> rcases e' with e' | e' <;> omega
theorem share_nonneg {n : Int} {w : List Int} (hn : 0 ≤ n) (hw : w.all wR = true) (hs : 0 < w.sum) {i : Nat} (hi : i < w.length) : 0 ≤ (shareF n w.sum w).getD i 0 := by
  obtain ⟨q, r, h1, hq, _, h2, h3, h4⟩ := share_at (n := n) hs hi
  have hx := of_decide_eq_true (List.all_eq_true.1 hw _ (List.getElem_mem hi))
  have m0 : 0 ≤ n * w[i] := Int.mul_nonneg hn hx.1
  have := Int.ediv_nonneg m0 (Int.le_of_lt hs)
  omega
theorem share_zero {n : Int} {w : List Int} (hs : 0 < w.sum) {i : Nat} (hi : i < w.length) (h0 : n * w[i] = 0) : (shareF n w.sum w).getD i 0 = 0 := by
  obtain ⟨q, r, h1, hq, hr, h2, h3, h4⟩ := share_at (n := n) hs hi
  rw [h0] at hq hr
  simp at hq hr
  omega
/-- Whole shares. -/
theorem share_whole {n : Int} {w : List Int} (h : (quos n w.sum w).sum = n) : shareF n w.sum w = quos n w.sum w := by
  unfold shareF
  rw [h, show (n - n).toNat = 0 by omega]
  rfl
end Go.Proofs.Ytejoijjmlglhfaa.Ev.CS
