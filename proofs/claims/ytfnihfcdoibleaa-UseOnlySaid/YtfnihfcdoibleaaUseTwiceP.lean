/- The plain law of losses that are used in two steps. -/
import Derived.Test.YtfnihfcdoibleaaUsePure
set_option linter.unusedSimpArgs false
set_option linter.unusedVariables false
namespace Go.Proofs.Ytfnihfcdoibleaa.Ev.CU
open Go

/-- What is left of each behind a step, and where it stood. -/
def restF : List Vi → List Int → List Vi
  | v :: r, x :: xs => if v.l > x then ⟨v.o, v.e, v.l - x⟩ :: restF r xs else restF r xs
  | _, _ => []
def atF : Nat → List Vi → List Int → List Int
  | k, v :: r, x :: xs => if v.l > x then (k : Int) :: atF (k + 1) r xs else atF (k + 1) r xs
  | _, _, _ => []
def comb : List Vi → List Int → List Int → List Int
  | v :: r, x :: xs, b => if v.l > x then (x + b.headD 0) :: comb r xs b.tail else x :: comb r xs b
  | _, _, _ => []
def scat (acc : List Int) : List Int → List Int → List Int
  | a :: l, b :: r => scat (acc.set a.toNat (acc.getD a.toNat 0 + b)) l r
  | _, _ => acc

theorem restF_cons (v : Vi) (r : List Vi) (x : Int) (xs : List Int) : restF (v :: r) (x :: xs) = if v.l > x then ⟨v.o, v.e, v.l - x⟩ :: restF r xs else restF r xs := rfl
theorem atF_cons (k : Nat) (v : Vi) (r : List Vi) (x : Int) (xs : List Int) : atF k (v :: r) (x :: xs) = if v.l > x then (k : Int) :: atF (k + 1) r xs else atF (k + 1) r xs := rfl
theorem at_len : ∀ (k : Nat) (l : List Vi) (x : List Int), (atF k l x).length = (restF l x).length
  | k, v :: r, x :: xs => by
    unfold atF restF
    split
    · simp [at_len (k + 1) r xs]
    · exact at_len (k + 1) r xs
  | _, [], _ => by simp [atF, restF]
  | _, _ :: _, [] => by simp [atF, restF]
theorem at_bound : ∀ (k : Nat) (l : List Vi) (x : List Int), ∀ a ∈ atF k l x, (k : Int) ≤ a ∧ a < k + x.length
  | k, v :: r, x :: xs, a, h => by
    have ih := at_bound (k + 1) r xs a
    unfold atF at h
    split at h
    · rcases List.mem_cons.1 h with rfl | h
      · simp; omega
      · have := ih h
        simp only [List.length_cons] at this ⊢
        omega
    · have := ih h
      simp only [List.length_cons] at this ⊢
      omega
  | _, [], _, a, h => by simp [atF] at h
  | _, _ :: _, [], a, h => by simp [atF] at h
theorem scat_comb : ∀ (l : List Vi) (x b pre : List Int), x.length = l.length → b.length = (restF l x).length → scat (pre ++ x) (atF pre.length l x) b = pre ++ comb l x b
  | [], [], b, pre, _, _ => by simp [atF, comb, scat]
  | v :: r, y :: ys, b, pre, hx, hb => by
    have hx' : ys.length = r.length := by simpa using hx
    unfold atF comb
    unfold restF at hb
    split
    · rename_i c
      rw [if_pos c] at hb
      cases b with
      | nil => simp at hb
      | cons b0 bs =>
        have hb' : bs.length = (restF r ys).length := by simpa using hb
        have e1 : (pre ++ y :: ys).set pre.length (y + b0) = (pre ++ [y + b0]) ++ ys := by
          rw [List.set_append_right _ _ (Nat.le_refl _), Nat.sub_self]; simp
        have e2 : (pre ++ y :: ys).getD pre.length 0 = y := by
          rw [List.getD_eq_getElem?_getD, List.getElem?_append_right (Nat.le_refl _), Nat.sub_self]; simp
        have ih := scat_comb r ys bs (pre ++ [y + b0]) hx' hb'
        simp only [scat, Int.toNat_natCast, e2, e1]
        rw [show pre.length + 1 = (pre ++ [y + b0]).length by simp, ih]
        simp
    · rename_i c
      rw [if_neg c] at hb
      have ih := scat_comb r ys b (pre ++ [y]) hx' hb
      rw [show pre.length + 1 = (pre ++ [y]).length by simp]
      have : pre ++ y :: ys = (pre ++ [y]) ++ ys := by simp
      rw [this, ih]; simp
  | [], _ :: _, _, _, h, _ => by simp at h
  | _ :: _, [], _, _, h, _ => by simp at h

/-- The rows that are left are as they may be. -/
theorem rest_pos : ∀ (l : List Vi) (x : List Int), (∀ v ∈ restF l x, 1 ≤ v.l)
  | v :: r, x :: xs, w, h => by
    unfold restF at h
    split at h
    · rcases List.mem_cons.1 h with rfl | h
      · simp only; omega
      · exact rest_pos r xs w h
    · exact rest_pos r xs w h
  | [], _, w, h => by simp [restF] at h
  | _ :: _, [], w, h => by simp [restF] at h
theorem rest_is : ∀ (l : List Vi) (x : List Int), (∀ v ∈ l, is64 v.e ∧ is64 v.o) → (∀ v ∈ restF l x, is64 v.e ∧ is64 v.o)
  | v :: r, x :: xs, hi, w, h => by
    unfold restF at h
    split at h
    · rcases List.mem_cons.1 h with rfl | h
      · exact hi v List.mem_cons_self
      · exact rest_is r xs (fun u hu => hi u (List.mem_cons_of_mem _ hu)) w h
    · exact rest_is r xs (fun u hu => hi u (List.mem_cons_of_mem _ hu)) w h
  | [], _, _, w, h => by simp [restF] at h
  | _ :: _, [], _, w, h => by simp [restF] at h
theorem rest_len : ∀ (l : List Vi) (x : List Int), (restF l x).length ≤ l.length
  | v :: r, x :: xs => by
    have := rest_len r xs
    unfold restF
    split
    · simp; omega
    · simp; omega
  | [], _ => by simp [restF]
  | _ :: _, [] => by simp [restF]
theorem rest_sum : ∀ (l : List Vi) (x : List Int), (∀ v ∈ l, 1 ≤ v.l) → (∀ y ∈ x, 0 ≤ y) → (lefts (restF l x)).sum ≤ (lefts l).sum
  | v :: r, x :: xs, hp, h => by
    have ih := rest_sum r xs (fun u hu => hp u (List.mem_cons_of_mem _ hu)) (fun y hy => h y (List.mem_cons_of_mem _ hy))
    have h0 := h x List.mem_cons_self
    have hv := hp v List.mem_cons_self
    unfold restF
    unfold lefts at ih ⊢
    split
    · simp; omega
    · simp; omega
  | [], _, _, _ => by simp [restF, lefts]
  | v :: r, [], hp, _ => by
    have := sum_nonneg (lefts_nonneg hp)
    simpa [restF, lefts] using this
theorem rest_good {l : List Vi} {x : List Int} (g : Good l) (h : ∀ y ∈ x, 0 ≤ y) : Good (restF l x) :=
  ⟨rest_pos l x, by have := rest_sum l x g.pos h; have := g.sum; omega, by have := rest_len l x; have := g.len; omega, rest_is l x g.is⟩

/-- Two steps are one. -/
theorem comb_ok {y : Int} : ∀ (l : List Vi) (p q : Int), (∀ v ∈ l, 1 ≤ v.l) → 0 ≤ p → 0 ≤ q → comb l (vecF y p l) (vecF y q (restF l (vecF y p l))) = vecF y (p + q) l
  | [], p, q, _, _, _ => by simp [comb, vecF]
  | v :: r, p, q, hp, h0, h1 => by
    have hv := hp v List.mem_cons_self
    have hr := fun u hu => hp u (List.mem_cons_of_mem v hu)
    by_cases c : v.e ≥ y
    · by_cases d : v.l ≤ p
      · have e1 : min v.l p = v.l := by omega
        have e2 : min v.l (p + q) = v.l := by omega
        have ih := comb_ok (y := y) r (p - v.l) q hr (by omega) h1
        have e3 : p + q - v.l = p - v.l + q := by omega
        simp only [vecF, if_pos c, e1, e2, restF, comb, Int.lt_irrefl, gt_iff_lt, if_false, e3, ih]
      · have e1 : min v.l p = p := by omega
        have ih := comb_ok (y := y) r 0 (q - min (v.l - p) q) hr (by omega) (by omega)
        have e2 : min v.l (p + q) = p + min (v.l - p) q := by omega
        have e3 : p + q - (p + min (v.l - p) q) = 0 + (q - min (v.l - p) q) := by omega
        have e4 : v.l > p := by omega
        simp only [vecF, if_pos c, e1, e2, restF, comb, if_pos e4, Int.sub_self, List.headD_cons, List.tail_cons, e3, ih]
    · have ih := comb_ok (y := y) r p q hr h0 h1
      have e4 : v.l > 0 := by omega
      simp only [vecF, if_neg c, restF, comb, if_pos e4, Int.sub_zero, List.headD_cons, List.tail_cons, Int.add_zero, ih]
/-- A step that doesn't use all its room leaves nothing that may be used. -/
theorem rest_none {y : Int} : ∀ (l : List Vi) (p : Int), (∀ v ∈ l, 1 ≤ v.l) → 0 ≤ p → (vecF y p l).sum < p → ∀ v ∈ restF l (vecF y p l), ¬ v.e ≥ y
  | [], p, _, _, _, v, h => by simp [restF] at h
  | v :: r, p, hp, h0, hs, w, h => by
    have hv := hp v List.mem_cons_self
    have hr := fun u hu => hp u (List.mem_cons_of_mem v hu)
    by_cases c : v.e ≥ y
    · simp only [vecF, if_pos c, restF] at h hs
      rw [List.sum_cons] at hs
      by_cases d : v.l ≤ p
      · have e1 : min v.l p = v.l := by omega
        rw [e1] at h hs
        rw [if_neg (by omega)] at h
        exact rest_none r (p - v.l) hr (by omega) (by omega) w h
      · have e1 : min v.l p = p := by omega
        rw [e1] at hs
        have := vec_bounds (year := y) (l := r) (left := p - p) hr (by omega)
        have := sum_nonneg this.1
        omega
    · simp only [vecF, if_neg c, restF, Int.sub_zero] at h hs
      rw [if_pos (by omega)] at h
      rw [List.sum_cons] at hs
      rcases List.mem_cons.1 h with rfl | h
      · exact c
      · exact rest_none r p hr h0 (by omega) w h
theorem vec_none {y : Int} : ∀ (l : List Vi) (p : Int), (∀ v ∈ l, ¬ v.e ≥ y) → vecF y p l = l.map fun _ => 0
  | [], _, _ => rfl
  | v :: r, p, h => by
    simp only [vecF, if_neg (h v List.mem_cons_self), Int.sub_zero, List.map_cons]
    rw [vec_none r p fun u hu => h u (List.mem_cons_of_mem _ hu)]
theorem comb_zero : ∀ (l : List Vi) (x b : List Int), x.length = l.length → (∀ y ∈ b, y = 0) → comb l x b = x
  | [], [], _, _, _ => rfl
  | v :: r, y :: ys, b, hx, hb => by
    have hx' : ys.length = r.length := by simpa using hx
    unfold comb
    split
    · rw [comb_zero r ys b.tail hx' fun z hz => hb z (List.mem_of_mem_tail hz)]
      cases b with
      | nil => simp
      | cons b0 bs => rw [List.headD_cons, hb b0 List.mem_cons_self]; simp
    · rw [comb_zero r ys b hx' hb]
  | [], _ :: _, _, h, _ => by simp at h
  | _ :: _, [], _, h, _ => by simp at h
theorem twice_less {y p q : Int} {l : List Vi} (hp : ∀ v ∈ l, 1 ≤ v.l) (h0 : 0 ≤ p) (h1 : 0 ≤ q) (hs : (vecF y p l).sum < p) : (vecF y q (restF l (vecF y p l))).sum = 0 ∧ vecF y p l = vecF y (p + q) l := by
  have a := vec_none (restF l (vecF y p l)) q (rest_none l p hp h0 hs)
  have z : ∀ x ∈ vecF y q (restF l (vecF y p l)), x = 0 := by rw [a]; intro x hx; obtain ⟨_, _, rfl⟩ := List.mem_map.1 hx; rfl
  refine ⟨?_, ?_⟩
  · have : ∀ (m : List Int), (∀ x ∈ m, x = 0) → m.sum = 0 := by
      intro m
      induction m with
      | nil => simp
      | cons b m ih => intro h; rw [List.sum_cons, h b List.mem_cons_self, ih fun x hx => h x (List.mem_cons_of_mem _ hx)]; rfl
    exact this _ z
  · rw [← comb_ok l p q hp h0 h1, comb_zero _ _ _ (vecF_len _ _ _) z]
end Go.Proofs.Ytfnihfcdoibleaa.Ev.CU
