/- Shares of an amount on the small machine. -/
import Derived.Test.YtejoijjmlglhfaaSpA
set_option linter.unusedSimpArgs false
set_option linter.unusedVariables false
namespace Go.Proofs.Ytejoijjmlglhfaa.Ev.CS
open Go

def maxL : List Int → Int
  | [] => 0
  | x :: r => r.foldl max x
theorem foldl_max_le : ∀ (l : List Int) (a : Int), a ≤ l.foldl max a ∧ ∀ x ∈ l, x ≤ l.foldl max a
  | [], a => by simp
  | x :: r, a => by
    obtain ⟨h1, h2⟩ := foldl_max_le r (max a x)
    rw [List.foldl_cons]
    refine ⟨by omega, fun y hy => ?_⟩
    rcases List.mem_cons.1 hy with rfl | hy
    · omega
    · exact h2 y hy
theorem foldl_max_mem : ∀ (l : List Int) (a : Int), l.foldl max a = a ∨ l.foldl max a ∈ l
  | [], a => .inl rfl
  | x :: r, a => by
    rw [List.foldl_cons]
    rcases foldl_max_mem r (max a x) with h | h
    · by_cases c : x ≤ a
      · left; rw [h]; omega
      · right; rw [h]; have : max a x = x := by omega
        rw [this]; exact List.mem_cons_self
    · exact .inr (List.mem_cons_of_mem _ h)
theorem le_maxL {l : List Int} : ∀ x ∈ l, x ≤ maxL l := by
  cases l with
  | nil => simp
  | cons a r =>
    intro x hx
    obtain ⟨h1, h2⟩ := foldl_max_le r a
    rcases List.mem_cons.1 hx with rfl | hx
    · exact h1
    · exact h2 x hx
theorem maxL_mem {l : List Int} (h : l ≠ []) : maxL l ∈ l := by
  cases l with
  | nil => exact absurd rfl h
  | cons a r =>
    rcases foldl_max_mem r a with h | h
    · show r.foldl max a ∈ a :: r
      rw [h]; exact List.mem_cons_self
    · exact List.mem_cons_of_mem _ h

theorem max_ok {h : LH} {v : SV} {l : List Int} (r : Rd h 3 1 encI v l) (hl : l.length < 9000000000000000000) (h0 : 0 < l.length) : callX C 21 [.s v] h = some (.s (.int .i64 (maxL l)), h) := by
  apply callX_wp
  refine WPc.post fun Ψ hΨ => ?_
  refine WPc.intro (e := e21) rfl (by simp [e21]) ?_
  show WPk C b21 _ _ (KR [.tmp 2] _)
  have rl := r.len
  obtain ⟨i, p, o, ob, vs, e, q2, q3, q4⟩ := r.int h0
  have c1 : ¬ (l.length : Int) < 1 := by omega
  have c2 : ¬ l.length < 1 := by omega
  have c3 : ¬ l = [] := fun e => by rw [e] at h0; simp at h0
  have h0' : (0 : Int) < l.length := by omega
  simp only [Nat.add_zero] at q4
  subst e
  simp [wpk_skip, wpk_seq, k_cond, wpk_block, wpk_exit, wpk_ret, wpk_loop, k_ops, k_draw0, t_nil, t_cons, KT_eq, KD_eq, wpo_nil, k_cons, k_step, mt_some, mtk_some, KO_eq, KP_eq, K_normal, K_ret, K_exit, KB_normal, KB_ret, KB_exit, KL_normal, KL_ret, KL_exit, k_ret, k_normal, stepE, isCall, calleeE, opE, wantE, odE, odS, odL, odSL, fget, fput, initE, keepF, List.map_cons, List.map_nil, binE, intOp, strOp, shOp, unE, eqpE, eqnE, neqB, ressE, resE, packL, packE, flat1, fcells, fillE, setL, cellsOf_bind, cellsO_own, cellsO_ro, lenE_sl, lenE_nils, lenE_sl0, bound, rep, minE, maxE, List.getElem?_cons_zero, List.getElem?_cons_succ, get_lt, set_lt, get_len, get_len_add, set_len, set_len_add, List.append_assoc, List.cons_append, List.nil_append, -getElem?_pos, b21, s21_4, s21_3, s21_2, s21_1, rl, c1, c2, c3, h0, h0', q2, q3, q4]
  refine WPl.inv2 (fun n fr h' => h' = h ∧ ∃ k : Nat, 1 ≤ k ∧ k ≤ l.length ∧ n = l.length - k ∧ fr = [(0, some (.s (.sl i p o l.length))), (3, some (.s (.int .i64 (maxL (l.take k))))), (4, some (.s (.int .i64 k)))]) ?_ _ _ _ ⟨rfl, 1, Nat.le_refl _, h0, rfl, ?_⟩
  · rintro I hI n fr h' ⟨rfl, k, hk1, hk, rfl, rfl⟩
    refine ⟨by simp [keepF, fget], ?_⟩
    by_cases hlt : k < l.length
    · obtain ⟨i', p', o', ob', vs', e', s2, s3, s4⟩ := r.int hlt
      simp only [SV.sl.injEq] at e'
      obtain ⟨rfl, rfl, rfl, -⟩ := e'
      have w3 : IntKind.i64.wrap ((k : Int) + 1) = ((k + 1 : Nat) : Int) := wrap_small (by omega) (by omega)
      have hm : (if maxL (l.take k) < l[k] then l[k] else maxL (l.take k)) = maxL (l.take (k + 1)) := by
        rw [List.take_succ_eq_append_getElem hlt]
        cases hh : l.take k with
        | nil =>
          have t1 : (l.take k).length = 0 := by rw [hh]; rfl
          rw [List.length_take] at t1
          omega
        | cons a t =>
          show _ = (t ++ [l[k]]).foldl max a
          rw [List.foldl_append, List.foldl_cons, List.foldl_nil]
          show (if t.foldl max a < l[k] then l[k] else t.foldl max a) = max (t.foldl max a) l[k]
          split <;> omega
      simp [wpk_skip, wpk_seq, k_cond, wpk_block, wpk_exit, wpk_ret, wpk_loop, k_ops, k_draw0, t_nil, t_cons, KT_eq, KD_eq, wpo_nil, k_cons, k_step, mt_some, mtk_some, KO_eq, KP_eq, K_normal, K_ret, K_exit, KB_normal, KB_ret, KB_exit, KL_normal, KL_ret, KL_exit, k_ret, k_normal, stepE, isCall, calleeE, opE, wantE, odE, odS, odL, odSL, fget, fput, initE, keepF, List.map_cons, List.map_nil, binE, intOp, strOp, shOp, unE, eqpE, eqnE, neqB, ressE, resE, packL, packE, flat1, fcells, fillE, setL, cellsOf_bind, cellsO_own, cellsO_ro, lenE_sl, lenE_nils, lenE_sl0, bound, rep, minE, maxE, List.getElem?_cons_zero, List.getElem?_cons_succ, get_lt, set_lt, get_len, get_len_add, set_len, set_len_add, List.append_assoc, List.cons_append, List.nil_append, -getElem?_pos, l21_0_1, l21_0, hlt, s2, s3, s4, hm, w3]
      exact ⟨_, by omega, hI _ _ _ ⟨rfl, k + 1, by omega, hlt, rfl, rfl⟩⟩
    · obtain rfl : k = l.length := by omega
      rw [List.take_length]
      simp [wpk_skip, wpk_seq, k_cond, wpk_block, wpk_exit, wpk_ret, wpk_loop, k_ops, k_draw0, t_nil, t_cons, KT_eq, KD_eq, wpo_nil, k_cons, k_step, mt_some, mtk_some, KO_eq, KP_eq, K_normal, K_ret, K_exit, KB_normal, KB_ret, KB_exit, KL_normal, KL_ret, KL_exit, k_ret, k_normal, stepE, isCall, calleeE, opE, wantE, odE, odS, odL, odSL, fget, fput, initE, keepF, List.map_cons, List.map_nil, binE, intOp, strOp, shOp, unE, eqpE, eqnE, neqB, ressE, resE, packL, packE, flat1, fcells, fillE, setL, cellsOf_bind, cellsO_own, cellsO_ro, lenE_sl, lenE_nils, lenE_sl0, bound, rep, minE, maxE, List.getElem?_cons_zero, List.getElem?_cons_succ, get_lt, set_lt, get_len, get_len_add, set_len, set_len_add, List.append_assoc, List.cons_append, List.nil_append, -getElem?_pos, l21_0_1, l21_0, hlt]
      exact hΨ _ _ ⟨rfl, rfl⟩
  · have : l.take 1 = [l[0]] := by
      cases l with
      | nil => simp at h0
      | cons a t => simp
    rw [this]; rfl

def idx (x : Int) : List Int → Nat
  | [] => 0
  | a :: l => if a = x then 0 else idx x l + 1
theorem idx_take {x : Int} : ∀ {l : List Int} {k : Nat} (hk : k < l.length), x ∉ l.take k → l[k] = x → idx x l = k
  | a :: l, 0, _, _, e => by simp at e; simp [idx, e]
  | a :: l, k + 1, hk, hn, e => by
    simp only [List.take_succ_cons, List.mem_cons, not_or] at hn
    have := idx_take (l := l) (k := k) (by simpa using hk) hn.2 (by simpa using e)
    simp [idx, Ne.symm hn.1, this]
theorem idx_lt {x : Int} : ∀ {l : List Int}, x ∈ l → idx x l < l.length ∧ l[idx x l]? = some x
  | a :: l, h => by
    by_cases c : a = x
    · simp [idx, c]
    · rcases List.mem_cons.1 h with rfl | h
      · exact absurd rfl c
      · have := idx_lt h
        simp only [idx, if_neg c, List.length_cons, List.getElem?_cons_succ]
        exact ⟨by omega, this.2⟩

theorem index_ok {h : LH} {v : SV} {l : List Int} (r : Rd h 3 1 encI v l) (hl : l.length < 9000000000000000000) {x : Int} (hx : x ∈ l) : callX C 20 [.s v, .s (.int .i64 x)] h = some (.s (.int .i64 (idx x l)), h) := by
  apply callX_wp
  refine WPc.post fun Ψ hΨ => ?_
  refine WPc.intro (e := e20) rfl (by simp [e20]) ?_
  show WPk C b20 _ _ (KR [.tmp 4] _)
  have rl := r.len
  simp [wpk_skip, wpk_seq, k_cond, wpk_block, wpk_exit, wpk_ret, wpk_loop, k_ops, k_draw0, t_nil, t_cons, KT_eq, KD_eq, wpo_nil, k_cons, k_step, mt_some, mtk_some, KO_eq, KP_eq, K_normal, K_ret, K_exit, KB_normal, KB_ret, KB_exit, KL_normal, KL_ret, KL_exit, k_ret, k_normal, stepE, isCall, calleeE, opE, wantE, odE, odS, odL, odSL, fget, fput, initE, keepF, List.map_cons, List.map_nil, binE, intOp, strOp, shOp, unE, eqpE, eqnE, neqB, ressE, resE, packL, packE, flat1, fcells, fillE, setL, cellsOf_bind, cellsO_own, cellsO_ro, lenE_sl, lenE_nils, lenE_sl0, bound, rep, minE, maxE, List.getElem?_cons_zero, List.getElem?_cons_succ, get_lt, set_lt, get_len, get_len_add, set_len, set_len_add, List.append_assoc, List.cons_append, List.nil_append, -getElem?_pos, b20, s20_2, s20_1, rl]
  refine WPl.inv2 (fun n fr h' => h' = h ∧ ∃ k : Nat, k ≤ l.length ∧ n = l.length - k ∧ x ∉ l.take k ∧ fr = [(0, some (.s v)), (1, some (.s (.int .i64 x))), (7, some (.s (.int .i64 l.length))), (8, some (.s (.int .i64 k)))]) ?_ _ _ _ ⟨rfl, 0, Nat.zero_le _, rfl, by simp, by simp⟩
  rintro I hI n fr h' ⟨rfl, k, hk, rfl, hn, rfl⟩
  refine ⟨by simp [keepF, fget], ?_⟩
  by_cases hlt : k < l.length
  · obtain ⟨i, p, o, ob, vs, rfl, q2, q3, q4⟩ := r.int hlt
    have w3 : IntKind.i64.wrap ((k : Int) + 1) = ((k + 1 : Nat) : Int) := wrap_small (by omega) (by omega)
    by_cases c : l[k] = x
    · have c' : (x == l[k]) = true := by simp [c]
      have e := idx_take hlt hn c
      simp [wpk_skip, wpk_seq, k_cond, wpk_block, wpk_exit, wpk_ret, wpk_loop, k_ops, k_draw0, t_nil, t_cons, KT_eq, KD_eq, wpo_nil, k_cons, k_step, mt_some, mtk_some, KO_eq, KP_eq, K_normal, K_ret, K_exit, KB_normal, KB_ret, KB_exit, KL_normal, KL_ret, KL_exit, k_ret, k_normal, stepE, isCall, calleeE, opE, wantE, odE, odS, odL, odSL, fget, fput, initE, keepF, List.map_cons, List.map_nil, binE, intOp, strOp, shOp, unE, eqpE, eqnE, neqB, ressE, resE, packL, packE, flat1, fcells, fillE, setL, cellsOf_bind, cellsO_own, cellsO_ro, lenE_sl, lenE_nils, lenE_sl0, bound, rep, minE, maxE, List.getElem?_cons_zero, List.getElem?_cons_succ, get_lt, set_lt, get_len, get_len_add, set_len, set_len_add, List.append_assoc, List.cons_append, List.nil_append, -getElem?_pos, l20_0_2, l20_0_1, l20_0, hlt, q2, q3, q4, c']
      exact hΨ _ _ ⟨by rw [e], rfl⟩
    · have c' : (x == l[k]) = false := by simpa using fun e => c e.symm
      simp [wpk_skip, wpk_seq, k_cond, wpk_block, wpk_exit, wpk_ret, wpk_loop, k_ops, k_draw0, t_nil, t_cons, KT_eq, KD_eq, wpo_nil, k_cons, k_step, mt_some, mtk_some, KO_eq, KP_eq, K_normal, K_ret, K_exit, KB_normal, KB_ret, KB_exit, KL_normal, KL_ret, KL_exit, k_ret, k_normal, stepE, isCall, calleeE, opE, wantE, odE, odS, odL, odSL, fget, fput, initE, keepF, List.map_cons, List.map_nil, binE, intOp, strOp, shOp, unE, eqpE, eqnE, neqB, ressE, resE, packL, packE, flat1, fcells, fillE, setL, cellsOf_bind, cellsO_own, cellsO_ro, lenE_sl, lenE_nils, lenE_sl0, bound, rep, minE, maxE, List.getElem?_cons_zero, List.getElem?_cons_succ, get_lt, set_lt, get_len, get_len_add, set_len, set_len_add, List.append_assoc, List.cons_append, List.nil_append, -getElem?_pos, l20_0_2, l20_0_1, l20_0, hlt, q2, q3, q4, c', w3]
      refine ⟨_, by omega, hI _ _ _ ⟨rfl, k + 1, hlt, rfl, ?_, rfl⟩⟩
      rw [List.take_succ_eq_append_getElem hlt]
      simp only [List.mem_append, List.mem_singleton, not_or]
      exact ⟨hn, fun e => c e.symm⟩
  · obtain rfl : k = l.length := by omega
    rw [List.take_length] at hn
    exact absurd hx hn
end Go.Proofs.Ytejoijjmlglhfaa.Ev.CS
