/- RateTells on the small machine. -/
import Derived.Test.YtalelfjjigfpeaaRateSums
set_option linter.unusedSimpArgs false
set_option linter.unusedVariables false
namespace Go.Proofs.Ytalelfjjigfpeaa.Ev.CQ
open Go

theorem ofF_pos {n r : Int} (hn : 0 ≤ n) (hr : 0 ≤ r) : ofF n r = if 1000000 ≤ 2 * ((n * r) % 1000000) then n * r / 1000000 + 1 else n * r / 1000000 := by
  unfold ofF
  have hx : 0 ≤ n * r := Int.mul_nonneg hn hr
  have e : 2 * n * r = 2 * (n * r) := Int.mul_assoc _ _ _
  rw [if_neg (by omega), e]
  generalize n * r = x at hx
  rw [Int.tdiv_eq_ediv_of_nonneg (by omega)]
  split <;> omega
theorem ofF_neg {n r : Int} (hn : n < 0) : ofF n r = -ofF (-n) r := by
  unfold ofF
  rw [if_pos hn, if_neg (by omega)]
  have e : 2 * n * r - 1000000 = -(2 * -n * r + 1000000) := by
    rw [Int.mul_neg, Int.neg_mul]; omega
  rw [e, Int.neg_tdiv]
theorem rof_pos {n r : Int} (hk : ofOk n r) (hn : 0 ≤ n) (h : LH) : callX C 25 [.s (.int .i64 n), .s (.int .i64 r)] h = some (.tup [.s (.int .i64 (ofF n r)), .s (.bool true)], h) := by
  apply callX_wp
  refine WPc.intro (e := e25) rfl (by simp [e25]) ?_
  show WPk C b25 _ _ (KR [.tmp 4, .tmp 5] _)
  have hk' := hk
  unfold ofOk at hk'
  have a1 : ¬ n < -400000000000 := by omega
  have a2 : ¬ n > 400000000000 := by omega
  have a3 : ¬ r < 0 := by omega
  have a4 : ¬ r > 10000000 := by omega
  have a5 : ¬ n < 0 := by omega
  have b := mul_bounds (n := n) (r := r) (N := 400000000000) (R := 10000000) (by omega) (by omega) (by omega)
  have b0 : 0 ≤ n * r := Int.mul_nonneg hn (by omega)
  rw [ofF_pos hn (by omega)]
  have w1 : IntKind.i64.wrap (n * r) = n * r := wrap_small (by omega) (by omega)
  obtain ⟨x, hx⟩ : ∃ x, x = n * r := ⟨_, rfl⟩
  rw [← hx] at b b0 w1 ⊢
  have e1 : x.tdiv 1000000 = x / 1000000 := Int.tdiv_eq_ediv_of_nonneg b0
  have e2 : x.tmod 1000000 = x % 1000000 := Int.tmod_eq_emod_of_nonneg b0
  have w2 : IntKind.i64.wrap (x / 1000000) = x / 1000000 := wrap_small (by omega) (by omega)
  have w3 : IntKind.i64.wrap (2 * (x % 1000000)) = 2 * (x % 1000000) := wrap_small (by omega) (by omega)
  have w4 : IntKind.i64.wrap (x / 1000000 + 1) = x / 1000000 + 1 := wrap_small (by omega) (by omega)
  by_cases c : 1000000 ≤ 2 * (x % 1000000)
  · simp [wpk_skip, wpk_seq, k_cond, wpk_block, wpk_exit, wpk_ret, wpk_loop, k_ops, k_draw0, t_nil, t_cons, KT_eq, KD_eq, wpo_nil, k_cons, k_step, mt_some, mtk_some, KO_eq, KP_eq, K_normal, K_ret, K_exit, KB_normal, KB_ret, KB_exit, KL_normal, KL_ret, KL_exit, k_ret, k_normal, stepE, isCall, calleeE, opE, wantE, odE, odS, odL, odSL, fget, fput, initE, keepF, List.map_cons, List.map_nil, binE, intOp, strOp, shOp, unE, eqpE, eqnE, neqB, ressE, resE, packL, packE, flat1, fcells, fillE, setL, cellsOf_bind, cellsO_own, cellsO_ro, lenE_sl, lenE_nils, lenE_sl0, bound, rep, minE, maxE, List.getElem?_cons_zero, List.getElem?_cons_succ, get_lt, set_lt, get_len, get_len_add, set_len, set_len_add, List.append_assoc, List.cons_append, List.nil_append, -getElem?_pos, b25, s25_6, s25_5, s25_4, s25_3, s25_2, s25_1, a1, a2, a3, a4, a5, ← hx, w1, e1, e2, w2, w3, w4, c]
  · simp [wpk_skip, wpk_seq, k_cond, wpk_block, wpk_exit, wpk_ret, wpk_loop, k_ops, k_draw0, t_nil, t_cons, KT_eq, KD_eq, wpo_nil, k_cons, k_step, mt_some, mtk_some, KO_eq, KP_eq, K_normal, K_ret, K_exit, KB_normal, KB_ret, KB_exit, KL_normal, KL_ret, KL_exit, k_ret, k_normal, stepE, isCall, calleeE, opE, wantE, odE, odS, odL, odSL, fget, fput, initE, keepF, List.map_cons, List.map_nil, binE, intOp, strOp, shOp, unE, eqpE, eqnE, neqB, ressE, resE, packL, packE, flat1, fcells, fillE, setL, cellsOf_bind, cellsO_own, cellsO_ro, lenE_sl, lenE_nils, lenE_sl0, bound, rep, minE, maxE, List.getElem?_cons_zero, List.getElem?_cons_succ, get_lt, set_lt, get_len, get_len_add, set_len, set_len_add, List.append_assoc, List.cons_append, List.nil_append, -getElem?_pos, b25, s25_6, s25_5, s25_4, s25_3, s25_2, s25_1, a1, a2, a3, a4, a5, ← hx, w1, e1, e2, w2, w3, w4, c]
theorem rof_ok (n r : Int) (h : LH) : callX C 25 [.s (.int .i64 n), .s (.int .i64 r)] h = some (if ofOk n r then .tup [.s (.int .i64 (ofF n r)), .s (.bool true)] else .tup [.s (.int .i64 0), .s (.bool false)], h) := by
  by_cases hk : ofOk n r
  · rw [if_pos hk]
    by_cases hn : 0 ≤ n
    · exact rof_pos hk hn h
    · apply callX_wp
      refine WPc.intro (e := e25) rfl (by simp [e25]) ?_
      show WPk C b25 _ _ (KR [.tmp 4, .tmp 5] _)
      have hk' := hk
      unfold ofOk at hk'
      have a1 : ¬ n < -400000000000 := by omega
      have a2 : ¬ n > 400000000000 := by omega
      have a3 : ¬ r < 0 := by omega
      have a4 : ¬ r > 10000000 := by omega
      have a5 : n < 0 := by omega
      have w0 : IntKind.i64.wrap (-n) = -n := wrap_small (by omega) (by omega)
      have p := rof_pos (n := -n) (r := r) (by unfold ofOk; omega) (by omega) h
      have b := mul_bounds (n := -n) (r := r) (N := 400000000000) (R := 10000000) (by omega) (by omega) (by omega)
      have hp := ofF_pos (n := -n) (r := r) (by omega) (by omega)
      rw [ofF_neg a5]
      have bo : -4000000000001 ≤ ofF (-n) r ∧ ofF (-n) r ≤ 4000000000001 := by
        rw [hp]
        have b0 : 0 ≤ -n * r := Int.mul_nonneg (by omega) (by omega)
        generalize -n * r = x at *
        split <;> omega
      generalize ofF (-n) r = q at *
      have w1 : IntKind.i64.wrap (-q) = -q := wrap_small (by omega) (by omega)
      simp [wpk_skip, wpk_seq, k_cond, wpk_block, wpk_exit, wpk_ret, wpk_loop, k_ops, k_draw0, t_nil, t_cons, KT_eq, KD_eq, wpo_nil, k_cons, k_step, mt_some, mtk_some, KO_eq, KP_eq, K_normal, K_ret, K_exit, KB_normal, KB_ret, KB_exit, KL_normal, KL_ret, KL_exit, k_ret, k_normal, stepE, isCall, calleeE, opE, wantE, odE, odS, odL, odSL, fget, fput, initE, keepF, List.map_cons, List.map_nil, binE, intOp, strOp, shOp, unE, eqpE, eqnE, neqB, ressE, resE, packL, packE, flat1, fcells, fillE, setL, cellsOf_bind, cellsO_own, cellsO_ro, lenE_sl, lenE_nils, lenE_sl0, bound, rep, minE, maxE, List.getElem?_cons_zero, List.getElem?_cons_succ, get_lt, set_lt, get_len, get_len_add, set_len, set_len_add, List.append_assoc, List.cons_append, List.nil_append, -getElem?_pos, b25, s25_6, s25_5, s25_4, s25_3, s25_2, s25_1, a1, a2, a3, a4, a5, w0, p, w1]
  · rw [if_neg hk]
    apply callX_wp
    refine WPc.intro (e := e25) rfl (by simp [e25]) ?_
    show WPk C b25 _ _ (KR [.tmp 4, .tmp 5] _)
    unfold ofOk at hk
    by_cases a1 : n < -400000000000
    · simp [wpk_skip, wpk_seq, k_cond, wpk_block, wpk_exit, wpk_ret, wpk_loop, k_ops, k_draw0, t_nil, t_cons, KT_eq, KD_eq, wpo_nil, k_cons, k_step, mt_some, mtk_some, KO_eq, KP_eq, K_normal, K_ret, K_exit, KB_normal, KB_ret, KB_exit, KL_normal, KL_ret, KL_exit, k_ret, k_normal, stepE, isCall, calleeE, opE, wantE, odE, odS, odL, odSL, fget, fput, initE, keepF, List.map_cons, List.map_nil, binE, intOp, strOp, shOp, unE, eqpE, eqnE, neqB, ressE, resE, packL, packE, flat1, fcells, fillE, setL, cellsOf_bind, cellsO_own, cellsO_ro, lenE_sl, lenE_nils, lenE_sl0, bound, rep, minE, maxE, List.getElem?_cons_zero, List.getElem?_cons_succ, get_lt, set_lt, get_len, get_len_add, set_len, set_len_add, List.append_assoc, List.cons_append, List.nil_append, -getElem?_pos, b25, s25_6, s25_5, s25_4, s25_3, s25_2, s25_1, a1]
    by_cases a2 : n > 400000000000
    · simp [wpk_skip, wpk_seq, k_cond, wpk_block, wpk_exit, wpk_ret, wpk_loop, k_ops, k_draw0, t_nil, t_cons, KT_eq, KD_eq, wpo_nil, k_cons, k_step, mt_some, mtk_some, KO_eq, KP_eq, K_normal, K_ret, K_exit, KB_normal, KB_ret, KB_exit, KL_normal, KL_ret, KL_exit, k_ret, k_normal, stepE, isCall, calleeE, opE, wantE, odE, odS, odL, odSL, fget, fput, initE, keepF, List.map_cons, List.map_nil, binE, intOp, strOp, shOp, unE, eqpE, eqnE, neqB, ressE, resE, packL, packE, flat1, fcells, fillE, setL, cellsOf_bind, cellsO_own, cellsO_ro, lenE_sl, lenE_nils, lenE_sl0, bound, rep, minE, maxE, List.getElem?_cons_zero, List.getElem?_cons_succ, get_lt, set_lt, get_len, get_len_add, set_len, set_len_add, List.append_assoc, List.cons_append, List.nil_append, -getElem?_pos, b25, s25_6, s25_5, s25_4, s25_3, s25_2, s25_1, a1, a2]
    by_cases a3 : r < 0
    · simp [wpk_skip, wpk_seq, k_cond, wpk_block, wpk_exit, wpk_ret, wpk_loop, k_ops, k_draw0, t_nil, t_cons, KT_eq, KD_eq, wpo_nil, k_cons, k_step, mt_some, mtk_some, KO_eq, KP_eq, K_normal, K_ret, K_exit, KB_normal, KB_ret, KB_exit, KL_normal, KL_ret, KL_exit, k_ret, k_normal, stepE, isCall, calleeE, opE, wantE, odE, odS, odL, odSL, fget, fput, initE, keepF, List.map_cons, List.map_nil, binE, intOp, strOp, shOp, unE, eqpE, eqnE, neqB, ressE, resE, packL, packE, flat1, fcells, fillE, setL, cellsOf_bind, cellsO_own, cellsO_ro, lenE_sl, lenE_nils, lenE_sl0, bound, rep, minE, maxE, List.getElem?_cons_zero, List.getElem?_cons_succ, get_lt, set_lt, get_len, get_len_add, set_len, set_len_add, List.append_assoc, List.cons_append, List.nil_append, -getElem?_pos, b25, s25_6, s25_5, s25_4, s25_3, s25_2, s25_1, a1, a2, a3]
    have a4 : r > 10000000 := by omega
    simp [wpk_skip, wpk_seq, k_cond, wpk_block, wpk_exit, wpk_ret, wpk_loop, k_ops, k_draw0, t_nil, t_cons, KT_eq, KD_eq, wpo_nil, k_cons, k_step, mt_some, mtk_some, KO_eq, KP_eq, K_normal, K_ret, K_exit, KB_normal, KB_ret, KB_exit, KL_normal, KL_ret, KL_exit, k_ret, k_normal, stepE, isCall, calleeE, opE, wantE, odE, odS, odL, odSL, fget, fput, initE, keepF, List.map_cons, List.map_nil, binE, intOp, strOp, shOp, unE, eqpE, eqnE, neqB, ressE, resE, packL, packE, flat1, fcells, fillE, setL, cellsOf_bind, cellsO_own, cellsO_ro, lenE_sl, lenE_nils, lenE_sl0, bound, rep, minE, maxE, List.getElem?_cons_zero, List.getElem?_cons_succ, get_lt, set_lt, get_len, get_len_add, set_len, set_len_add, List.append_assoc, List.cons_append, List.nil_append, -getElem?_pos, b25, s25_6, s25_5, s25_4, s25_3, s25_2, s25_1, a1, a2, a3, a4]

theorem of_all (n r : Int) (h : LH) : callX C 14 [.s (.int .i64 n), .s (.int .i64 r)] h = some (if ofOk n r then .tup [.s (.int .i64 (ofF n r)), .s (.bool true)] else .tup [.s (.int .i64 0), .s (.bool false)], h) := by
  by_cases hk : ofOk n r
  · rw [if_pos hk]; exact of_ok hk h
  · rw [if_neg hk]
    apply callX_wp
    refine WPc.intro (e := e14) rfl (by simp [e14]) ?_
    show WPk C b14 _ _ (KR [.tmp 4, .tmp 5] _)
    unfold ofOk at hk
    by_cases a1 : n < -400000000000
    · simp [wpk_skip, wpk_seq, k_cond, wpk_block, wpk_exit, wpk_ret, wpk_loop, k_ops, k_draw0, t_nil, t_cons, KT_eq, KD_eq, wpo_nil, k_cons, k_step, mt_some, mtk_some, KO_eq, KP_eq, K_normal, K_ret, K_exit, KB_normal, KB_ret, KB_exit, KL_normal, KL_ret, KL_exit, k_ret, k_normal, stepE, isCall, calleeE, opE, wantE, odE, odS, odL, odSL, fget, fput, initE, keepF, List.map_cons, List.map_nil, binE, intOp, strOp, shOp, unE, eqpE, eqnE, neqB, ressE, resE, packL, packE, flat1, fcells, fillE, setL, cellsOf_bind, cellsO_own, cellsO_ro, lenE_sl, lenE_nils, lenE_sl0, bound, rep, minE, maxE, List.getElem?_cons_zero, List.getElem?_cons_succ, get_lt, set_lt, get_len, get_len_add, set_len, set_len_add, List.append_assoc, List.cons_append, List.nil_append, -getElem?_pos, b14, s14_4, s14_3, s14_2, s14_1, a1]
    by_cases a2 : n > 400000000000
    · simp [wpk_skip, wpk_seq, k_cond, wpk_block, wpk_exit, wpk_ret, wpk_loop, k_ops, k_draw0, t_nil, t_cons, KT_eq, KD_eq, wpo_nil, k_cons, k_step, mt_some, mtk_some, KO_eq, KP_eq, K_normal, K_ret, K_exit, KB_normal, KB_ret, KB_exit, KL_normal, KL_ret, KL_exit, k_ret, k_normal, stepE, isCall, calleeE, opE, wantE, odE, odS, odL, odSL, fget, fput, initE, keepF, List.map_cons, List.map_nil, binE, intOp, strOp, shOp, unE, eqpE, eqnE, neqB, ressE, resE, packL, packE, flat1, fcells, fillE, setL, cellsOf_bind, cellsO_own, cellsO_ro, lenE_sl, lenE_nils, lenE_sl0, bound, rep, minE, maxE, List.getElem?_cons_zero, List.getElem?_cons_succ, get_lt, set_lt, get_len, get_len_add, set_len, set_len_add, List.append_assoc, List.cons_append, List.nil_append, -getElem?_pos, b14, s14_4, s14_3, s14_2, s14_1, a1, a2]
    by_cases a3 : r < 0
    · simp [wpk_skip, wpk_seq, k_cond, wpk_block, wpk_exit, wpk_ret, wpk_loop, k_ops, k_draw0, t_nil, t_cons, KT_eq, KD_eq, wpo_nil, k_cons, k_step, mt_some, mtk_some, KO_eq, KP_eq, K_normal, K_ret, K_exit, KB_normal, KB_ret, KB_exit, KL_normal, KL_ret, KL_exit, k_ret, k_normal, stepE, isCall, calleeE, opE, wantE, odE, odS, odL, odSL, fget, fput, initE, keepF, List.map_cons, List.map_nil, binE, intOp, strOp, shOp, unE, eqpE, eqnE, neqB, ressE, resE, packL, packE, flat1, fcells, fillE, setL, cellsOf_bind, cellsO_own, cellsO_ro, lenE_sl, lenE_nils, lenE_sl0, bound, rep, minE, maxE, List.getElem?_cons_zero, List.getElem?_cons_succ, get_lt, set_lt, get_len, get_len_add, set_len, set_len_add, List.append_assoc, List.cons_append, List.nil_append, -getElem?_pos, b14, s14_4, s14_3, s14_2, s14_1, a1, a2, a3]
    have a4 : r > 10000000 := by omega
    simp [wpk_skip, wpk_seq, k_cond, wpk_block, wpk_exit, wpk_ret, wpk_loop, k_ops, k_draw0, t_nil, t_cons, KT_eq, KD_eq, wpo_nil, k_cons, k_step, mt_some, mtk_some, KO_eq, KP_eq, K_normal, K_ret, K_exit, KB_normal, KB_ret, KB_exit, KL_normal, KL_ret, KL_exit, k_ret, k_normal, stepE, isCall, calleeE, opE, wantE, odE, odS, odL, odSL, fget, fput, initE, keepF, List.map_cons, List.map_nil, binE, intOp, strOp, shOp, unE, eqpE, eqnE, neqB, ressE, resE, packL, packE, flat1, fcells, fillE, setL, cellsOf_bind, cellsO_own, cellsO_ro, lenE_sl, lenE_nils, lenE_sl0, bound, rep, minE, maxE, List.getElem?_cons_zero, List.getElem?_cons_succ, get_lt, set_lt, get_len, get_len_add, set_len, set_len_add, List.append_assoc, List.cons_append, List.nil_append, -getElem?_pos, b14, s14_4, s14_3, s14_2, s14_1, a1, a2, a3, a4]

def minL : List Int → Int
  | [] => 0
  | x :: r => r.foldl min x
theorem foldl_min_le : ∀ (l : List Int) (a : Int), l.foldl min a ≤ a ∧ ∀ x ∈ l, l.foldl min a ≤ x
  | [], a => by simp
  | x :: r, a => by
    obtain ⟨h1, h2⟩ := foldl_min_le r (min a x)
    rw [List.foldl_cons]
    refine ⟨by omega, fun y hy => ?_⟩
    rcases List.mem_cons.1 hy with rfl | hy
    · omega
    · exact h2 y hy
theorem foldl_min_mem : ∀ (l : List Int) (a : Int), l.foldl min a = a ∨ l.foldl min a ∈ l
  | [], a => .inl rfl
  | x :: r, a => by
    rw [List.foldl_cons]
    rcases foldl_min_mem r (min a x) with h | h
    · by_cases c : a ≤ x
      · left; rw [h]; omega
      · right; rw [h]; have : min a x = x := by omega
        rw [this]; exact List.mem_cons_self
    · exact .inr (List.mem_cons_of_mem _ h)
theorem minL_le {l : List Int} : ∀ x ∈ l, minL l ≤ x := by
  cases l with
  | nil => simp
  | cons a r =>
    intro x hx
    obtain ⟨h1, h2⟩ := foldl_min_le r a
    rcases List.mem_cons.1 hx with rfl | hx
    · exact h1
    · exact h2 x hx
theorem minL_mem {l : List Int} (h : l ≠ []) : minL l ∈ l := by
  cases l with
  | nil => exact absurd rfl h
  | cons a r =>
    rcases foldl_min_mem r a with h | h
    · show r.foldl min a ∈ a :: r
      rw [h]; exact List.mem_cons_self
    · exact List.mem_cons_of_mem _ h

theorem min_ok {h : LH} {v : SV} {l : List Int} (r : Rd h 3 1 encI v l) (hl : l.length < 9000000000000000000) (h0 : 0 < l.length) : callX C 35 [.s v] h = some (.s (.int .i64 (minL l)), h) := by
  apply callX_wp
  refine WPc.post fun Ψ hΨ => ?_
  refine WPc.intro (e := e35) rfl (by simp [e35]) ?_
  show WPk C b35 _ _ (KR [.tmp 2] _)
  have rl := r.len
  obtain ⟨i, p, o, ob, vs, e, q2, q3, q4⟩ := r.int h0
  have c1 : ¬ (l.length : Int) < 1 := by omega
  have c2 : ¬ l.length < 1 := by omega
  have c3 : ¬ l = [] := fun e => by rw [e] at h0; simp at h0
  have h0' : (0 : Int) < l.length := by omega
  simp only [Nat.add_zero] at q4
  subst e
  simp [wpk_skip, wpk_seq, k_cond, wpk_block, wpk_exit, wpk_ret, wpk_loop, k_ops, k_draw0, t_nil, t_cons, KT_eq, KD_eq, wpo_nil, k_cons, k_step, mt_some, mtk_some, KO_eq, KP_eq, K_normal, K_ret, K_exit, KB_normal, KB_ret, KB_exit, KL_normal, KL_ret, KL_exit, k_ret, k_normal, stepE, isCall, calleeE, opE, wantE, odE, odS, odL, odSL, fget, fput, initE, keepF, List.map_cons, List.map_nil, binE, intOp, strOp, shOp, unE, eqpE, eqnE, neqB, ressE, resE, packL, packE, flat1, fcells, fillE, setL, cellsOf_bind, cellsO_own, cellsO_ro, lenE_sl, lenE_nils, lenE_sl0, bound, rep, minE, maxE, List.getElem?_cons_zero, List.getElem?_cons_succ, get_lt, set_lt, get_len, get_len_add, set_len, set_len_add, List.append_assoc, List.cons_append, List.nil_append, -getElem?_pos, b35, s35_4, s35_3, s35_2, s35_1, rl, c1, c2, c3, h0, h0', q2, q3, q4]
  refine WPl.inv2 (fun n fr h' => h' = h ∧ ∃ k : Nat, 1 ≤ k ∧ k ≤ l.length ∧ n = l.length - k ∧ fr = [(0, some (.s (.sl i p o l.length))), (3, some (.s (.int .i64 (minL (l.take k))))), (4, some (.s (.int .i64 k)))]) ?_ _ _ _ ⟨rfl, 1, Nat.le_refl _, h0, rfl, ?_⟩
  · rintro I hI n fr h' ⟨rfl, k, hk1, hk, rfl, rfl⟩
    refine ⟨by simp [keepF, fget], ?_⟩
    by_cases hlt : k < l.length
    · obtain ⟨i', p', o', ob', vs', e', s2, s3, s4⟩ := r.int hlt
      simp only [SV.sl.injEq] at e'
      obtain ⟨rfl, rfl, rfl, -⟩ := e'
      have w3 : IntKind.i64.wrap ((k : Int) + 1) = ((k + 1 : Nat) : Int) := wrap_small (by omega) (by omega)
      have hm : (if l[k] < minL (l.take k) then l[k] else minL (l.take k)) = minL (l.take (k + 1)) := by
        rw [List.take_succ_eq_append_getElem hlt]
        cases hh : l.take k with
        | nil =>
          have t1 : (l.take k).length = 0 := by rw [hh]; rfl
          rw [List.length_take] at t1
          omega
        | cons a t =>
          show _ = (t ++ [l[k]]).foldl min a
          rw [List.foldl_append, List.foldl_cons, List.foldl_nil]
          show (if l[k] < t.foldl min a then l[k] else t.foldl min a) = min (t.foldl min a) l[k]
          split <;> omega
      simp [wpk_skip, wpk_seq, k_cond, wpk_block, wpk_exit, wpk_ret, wpk_loop, k_ops, k_draw0, t_nil, t_cons, KT_eq, KD_eq, wpo_nil, k_cons, k_step, mt_some, mtk_some, KO_eq, KP_eq, K_normal, K_ret, K_exit, KB_normal, KB_ret, KB_exit, KL_normal, KL_ret, KL_exit, k_ret, k_normal, stepE, isCall, calleeE, opE, wantE, odE, odS, odL, odSL, fget, fput, initE, keepF, List.map_cons, List.map_nil, binE, intOp, strOp, shOp, unE, eqpE, eqnE, neqB, ressE, resE, packL, packE, flat1, fcells, fillE, setL, cellsOf_bind, cellsO_own, cellsO_ro, lenE_sl, lenE_nils, lenE_sl0, bound, rep, minE, maxE, List.getElem?_cons_zero, List.getElem?_cons_succ, get_lt, set_lt, get_len, get_len_add, set_len, set_len_add, List.append_assoc, List.cons_append, List.nil_append, -getElem?_pos, l35_0_1, l35_0, hlt, s2, s3, s4, hm, w3]
      exact ⟨_, by omega, hI _ _ _ ⟨rfl, k + 1, by omega, hlt, rfl, rfl⟩⟩
    · obtain rfl : k = l.length := by omega
      rw [List.take_length]
      simp [wpk_skip, wpk_seq, k_cond, wpk_block, wpk_exit, wpk_ret, wpk_loop, k_ops, k_draw0, t_nil, t_cons, KT_eq, KD_eq, wpo_nil, k_cons, k_step, mt_some, mtk_some, KO_eq, KP_eq, K_normal, K_ret, K_exit, KB_normal, KB_ret, KB_exit, KL_normal, KL_ret, KL_exit, k_ret, k_normal, stepE, isCall, calleeE, opE, wantE, odE, odS, odL, odSL, fget, fput, initE, keepF, List.map_cons, List.map_nil, binE, intOp, strOp, shOp, unE, eqpE, eqnE, neqB, ressE, resE, packL, packE, flat1, fcells, fillE, setL, cellsOf_bind, cellsO_own, cellsO_ro, lenE_sl, lenE_nils, lenE_sl0, bound, rep, minE, maxE, List.getElem?_cons_zero, List.getElem?_cons_succ, get_lt, set_lt, get_len, get_len_add, set_len, set_len_add, List.append_assoc, List.cons_append, List.nil_append, -getElem?_pos, l35_0_1, l35_0, hlt]
      exact hΨ _ _ ⟨rfl, rfl⟩
  · have : l.take 1 = [l[0]] := by
      cases l with
      | nil => simp at h0
      | cons a t => simp
    rw [this]; rfl
theorem least_ok {h : LH} {v : SV} {l : List Int} (r : Rd h 3 1 encI v l) (hl : l.length < 9000000000000000000) : callX C 21 [.s v] h = some (.tup [.s (.int .i64 (minL l)), .s (.bool (decide (0 < l.length)))], h) := by
  apply callX_wp
  refine WPc.intro (e := e21) rfl (by simp [e21]) ?_
  show WPk C b21 _ _ (KR [.tmp 2, .tmp 3] _)
  by_cases h0 : 0 < l.length
  · have c1 : ((l.length : Int) == 0) = false := by
      have : (l.length : Int) ≠ 0 := by omega
      simpa using this
    have c3 : ¬ l = [] := fun e => by rw [e] at h0; simp at h0
    simp [wpk_skip, wpk_seq, k_cond, wpk_block, wpk_exit, wpk_ret, wpk_loop, k_ops, k_draw0, t_nil, t_cons, KT_eq, KD_eq, wpo_nil, k_cons, k_step, mt_some, mtk_some, KO_eq, KP_eq, K_normal, K_ret, K_exit, KB_normal, KB_ret, KB_exit, KL_normal, KL_ret, KL_exit, k_ret, k_normal, stepE, isCall, calleeE, opE, wantE, odE, odS, odL, odSL, fget, fput, initE, keepF, List.map_cons, List.map_nil, binE, intOp, strOp, shOp, unE, eqpE, eqnE, neqB, ressE, resE, packL, packE, flat1, fcells, fillE, setL, cellsOf_bind, cellsO_own, cellsO_ro, lenE_sl, lenE_nils, lenE_sl0, bound, rep, minE, maxE, List.getElem?_cons_zero, List.getElem?_cons_succ, get_lt, set_lt, get_len, get_len_add, set_len, set_len_add, List.append_assoc, List.cons_append, List.nil_append, -getElem?_pos, b21, s21_2, s21_1, r.len, c1, c3, min_ok r hl h0, h0]
  · obtain rfl : l = [] := List.eq_nil_of_length_eq_zero (by omega)
    simp [wpk_skip, wpk_seq, k_cond, wpk_block, wpk_exit, wpk_ret, wpk_loop, k_ops, k_draw0, t_nil, t_cons, KT_eq, KD_eq, wpo_nil, k_cons, k_step, mt_some, mtk_some, KO_eq, KP_eq, K_normal, K_ret, K_exit, KB_normal, KB_ret, KB_exit, KL_normal, KL_ret, KL_exit, k_ret, k_normal, stepE, isCall, calleeE, opE, wantE, odE, odS, odL, odSL, fget, fput, initE, keepF, List.map_cons, List.map_nil, binE, intOp, strOp, shOp, unE, eqpE, eqnE, neqB, ressE, resE, packL, packE, flat1, fcells, fillE, setL, cellsOf_bind, cellsO_own, cellsO_ro, lenE_sl, lenE_nils, lenE_sl0, bound, rep, minE, maxE, List.getElem?_cons_zero, List.getElem?_cons_succ, get_lt, set_lt, get_len, get_len_add, set_len, set_len_add, List.append_assoc, List.cons_append, List.nil_append, -getElem?_pos, b21, s21_2, s21_1, r.len, minL]

set_option maxRecDepth 20000 in
set_option maxHeartbeats 8000000 in
theorem rateTells_ok {h0 : LH} {av : SV} {zs : List Int} (n0 r0 how : Int) (ha : IntA h0 3 av zs) (hz : ∀ z ∈ zs, (Lit.int .i64 z).wf = true) (hn0 : is64 n0) (hr0 : is64 r0) (hh0 : is64 how) : ∃ h', callX C 9 [.s (.int .i64 n0), .s (.int .i64 r0), .s (.int .i64 how), .s av] h0 = some (.s (.bool true), h') ∧ True := by
  suffices w : WPc C 9 [.s (.int .i64 n0), .s (.int .i64 r0), .s (.int .i64 how), .s av] h0 fun u _ => u = .s (.bool true) by
    obtain ⟨v, h', e, rfl⟩ := w
    exact ⟨h', e, trivial⟩
  refine WPc.post fun Ψ hΨ => ?_
  refine WPc.intro (e := e9) rfl (by simp [e9]) ?_
  show WPk C b9 _ _ (KR [.tmp 8] _)
  have main : ∀ (n r : Int) (h1 : LH) (x : Fr), Gr h0 h1 → WPk C s9_3 ((0, some (.s (.int .i64 n))) :: (1, some (.s (.int .i64 r))) :: (3, some (.s av)) :: x) h1 (KR [.tmp 8] Ψ) := by
    intro n r h1 x g1
    have m1 := fun h => money_ok n h
    have m2 := fun h => rmoney_ok n h
    have q1 := fun h => right_ok r h
    have q2 := fun h => rright_ok r h
    obtain ⟨A, hA⟩ : ∃ A : Int × Bool, A = if ofOk n r then (ofF n r, true) else (0, false) := ⟨_, rfl⟩
    have o1 := of_all n r h1
    have o2 := rof_ok n r h1
    have hO : (if ofOk n r then FV.tup [.s (.int .i64 (ofF n r)), .s (.bool true)] else .tup [.s (.int .i64 0), .s (.bool false)]) = FV.tup [.s (.int .i64 A.1), .s (.bool A.2)] := by rw [hA]; split <;> rfl
    rw [hO] at o1 o2
    obtain ⟨B, hB⟩ : ∃ B : Int × Bool, B = if floorOk n r then ((n * r).tdiv 1000000, true) else (0, false) := ⟨_, rfl⟩
    have f1 := floor_ok n r h1
    have f2 := rfloor_ok n r h1
    have hF : (if floorOk n r then FV.tup [.s (.int .i64 ((n * r).tdiv 1000000)), .s (.bool true)] else .tup [.s (.int .i64 0), .s (.bool false)]) = FV.tup [.s (.int .i64 B.1), .s (.bool B.2)] := by rw [hB]; split <;> rfl
    rw [hF] at f1 f2
    have e1 : (A.1 != A.1) = false := by simp
    have e2 : (B.1 != B.1) = false := by simp
    simp [wpk_skip, wpk_seq, k_cond, wpk_block, wpk_exit, wpk_ret, wpk_loop, k_ops, k_draw0, t_nil, t_cons, KT_eq, KD_eq, wpo_nil, k_cons, k_step, mt_some, mtk_some, KO_eq, KP_eq, K_normal, K_ret, K_exit, KB_normal, KB_ret, KB_exit, KL_normal, KL_ret, KL_exit, k_ret, k_normal, stepE, isCall, calleeE, opE, wantE, odE, odS, odL, odSL, fget, fput, initE, keepF, List.map_cons, List.map_nil, binE, intOp, strOp, shOp, unE, eqpE, eqnE, neqB, ressE, resE, packL, packE, flat1, fcells, fillE, setL, cellsOf_bind, cellsO_own, cellsO_ro, lenE_sl, lenE_nils, lenE_sl0, bound, rep, minE, maxE, List.getElem?_cons_zero, List.getElem?_cons_succ, get_lt, set_lt, get_len, get_len_add, set_len, set_len_add, List.append_assoc, List.cons_append, List.nil_append, -getElem?_pos, s9_3, s9_4, s9_5, s9_6, s9_7, o1, o2, f1, f2, e1, e2, m1, m2, q1, q2, s9_8]
    have rz := ha.rd.gr g1
    refine WPc.go (cut_ok (IntA.form ha) rz 12 (by omega)) ?_
    rintro _ h2 ⟨g2, w, rfl, ow⟩
    have hS : (zs.take 12).length ≤ 12 := by simp; omega
    have h64 : ∀ x ∈ zs.take 12, is64 x := fun x hx => lit_64 (hz x (List.mem_of_mem_take hx))
    generalize zs.take 12 = S0 at *
    simp [wpk_skip, wpk_seq, k_cond, wpk_block, wpk_exit, wpk_ret, wpk_loop, k_ops, k_draw0, t_nil, t_cons, KT_eq, KD_eq, wpo_nil, k_cons, k_step, mt_some, mtk_some, KO_eq, KP_eq, K_normal, K_ret, K_exit, KB_normal, KB_ret, KB_exit, KL_normal, KL_ret, KL_exit, k_ret, k_normal, stepE, isCall, calleeE, opE, wantE, odE, odS, odL, odSL, fget, fput, initE, keepF, List.map_cons, List.map_nil, binE, intOp, strOp, shOp, unE, eqpE, eqnE, neqB, ressE, resE, packL, packE, flat1, fcells, fillE, setL, cellsOf_bind, cellsO_own, cellsO_ro, lenE_sl, lenE_nils, lenE_sl0, bound, rep, minE, maxE, List.getElem?_cons_zero, List.getElem?_cons_succ, get_lt, set_lt, get_len, get_len_add, set_len, set_len_add, List.append_assoc, List.cons_append, List.nil_append, -getElem?_pos, s9_9, ow.len]
    refine WPl.post (fun x fr' h' => x = .exit 0 ∧ fr' = [(17, some (.s w))] ∧ ∃ S, Ow h1.length h' 3 encI w S ∧ S.length = S0.length) (fun Φ hΦ => ?_) ?_
    · refine WPl.inv2 (fun n fr h' => ∃ (k : Nat) (S : List Int), k ≤ S0.length ∧ n = S0.length - k ∧ Ow h1.length h' 3 encI w S ∧ S.length = S0.length ∧ (S.drop k = S0.drop k) ∧
        fr = [(17, some (.s w)), (106, some (.s (.int .i64 S0.length))), (107, some (.s (.int .i64 k)))]) ?_ _ _ _ ⟨0, S0, Nat.zero_le _, rfl, ow, rfl, rfl, rfl⟩
      rintro I hI n fr h' ⟨k, S, hk, rfl, oS, hl, hd, rfl⟩
      refine ⟨by simp [keepF, fget], ?_⟩
      by_cases hlt : k < S0.length
      · have kS : k < S.length := by omega
        obtain ⟨j, i1, rfl, i2, i3⟩ := oS.int_at kS
        have i5 := lt_of_some i2
        have hrow : S[k] = S0[k] := by
          have e1 := List.drop_eq_getElem_cons kS
          have e2 := List.drop_eq_getElem_cons hlt
          rw [hd, e2] at e1
          exact ((List.cons.inj e1).1).symm
        have hx := h64 _ (List.getElem_mem hlt)
        have hget : (S.map (SV.int .i64))[k]? = some (.int .i64 S[k]) := by simp [kS]
        rw [← hrow] at hx
        have y1 := fun h => amount_ok hx h
        have w3 : IntKind.i64.wrap ((k : Int) + 1) = ((k + 1 : Nat) : Int) := wrap_small (by omega) (by omega)
        have t2 : k + 1 ≤ S.length := kS
        simp [wpk_skip, wpk_seq, k_cond, wpk_block, wpk_exit, wpk_ret, wpk_loop, k_ops, k_draw0, t_nil, t_cons, KT_eq, KD_eq, wpo_nil, k_cons, k_step, mt_some, mtk_some, KO_eq, KP_eq, K_normal, K_ret, K_exit, KB_normal, KB_ret, KB_exit, KL_normal, KL_ret, KL_exit, k_ret, k_normal, stepE, isCall, calleeE, opE, wantE, odE, odS, odL, odSL, fget, fput, initE, keepF, List.map_cons, List.map_nil, binE, intOp, strOp, shOp, unE, eqpE, eqnE, neqB, ressE, resE, packL, packE, flat1, fcells, fillE, setL, cellsOf_bind, cellsO_own, cellsO_ro, lenE_sl, lenE_nils, lenE_sl0, bound, rep, minE, maxE, List.getElem?_cons_zero, List.getElem?_cons_succ, get_lt, set_lt, get_len, get_len_add, set_len, set_len_add, List.append_assoc, List.cons_append, List.nil_append, -getElem?_pos, l9_0_2, l9_0_1, l9_0, hlt, kS, i2, i5, hget, y1, w3, t2]
        refine ⟨_, by omega, hI _ _ _ ⟨k + 1, S.set k (amountF S[k]), hlt, rfl, i3 _, by simp [hl], ?_, rfl⟩⟩
        rw [List.drop_set_of_lt (by omega)]
        have := congrArg (List.drop 1) hd
        simpa using this
      · obtain rfl : k = S0.length := by omega
        simp [wpk_skip, wpk_seq, k_cond, wpk_block, wpk_exit, wpk_ret, wpk_loop, k_ops, k_draw0, t_nil, t_cons, KT_eq, KD_eq, wpo_nil, k_cons, k_step, mt_some, mtk_some, KO_eq, KP_eq, K_normal, K_ret, K_exit, KB_normal, KB_ret, KB_exit, KL_normal, KL_ret, KL_exit, k_ret, k_normal, stepE, isCall, calleeE, opE, wantE, odE, odS, odL, odSL, fget, fput, initE, keepF, List.map_cons, List.map_nil, binE, intOp, strOp, shOp, unE, eqpE, eqnE, neqB, ressE, resE, packL, packE, flat1, fcells, fillE, setL, cellsOf_bind, cellsO_own, cellsO_ro, lenE_sl, lenE_nils, lenE_sl0, bound, rep, minE, maxE, List.getElem?_cons_zero, List.getElem?_cons_succ, get_lt, set_lt, get_len, get_len_add, set_len, set_len_add, List.append_assoc, List.cons_append, List.nil_append, -getElem?_pos, l9_0_2, l9_0_1, l9_0, hlt]
        exact hΦ _ _ _ ⟨rfl, rfl, S, oS, hl⟩
    · rintro x fr' h3 ⟨rfl, rfl, S, oS, hl⟩
      have rS := oS.rd encI_len (z := 1)
      have s1 := sum_ok rS (by omega)
      have s2 := rsum_ok rS (by omega)
      have s3 := least_ok rS (by omega)
      have rl := rS.len
      simp [wpk_skip, wpk_seq, k_cond, wpk_block, wpk_exit, wpk_ret, wpk_loop, k_ops, k_draw0, t_nil, t_cons, KT_eq, KD_eq, wpo_nil, k_cons, k_step, mt_some, mtk_some, KO_eq, KP_eq, K_normal, K_ret, K_exit, KB_normal, KB_ret, KB_exit, KL_normal, KL_ret, KL_exit, k_ret, k_normal, stepE, isCall, calleeE, opE, wantE, odE, odS, odL, odSL, fget, fput, initE, keepF, List.map_cons, List.map_nil, binE, intOp, strOp, shOp, unE, eqpE, eqnE, neqB, ressE, resE, packL, packE, flat1, fcells, fillE, setL, cellsOf_bind, cellsO_own, cellsO_ro, lenE_sl, lenE_nils, lenE_sl0, bound, rep, minE, maxE, List.getElem?_cons_zero, List.getElem?_cons_succ, get_lt, set_lt, get_len, get_len_add, set_len, set_len_add, List.append_assoc, List.cons_append, List.nil_append, -getElem?_pos, s9_10, s9_11, s9_12, s9_13, s1, s2, s3, rl]
      refine WPl.post (fun x fr' h' => x = .exit 2 ∧ h' = h3 ∧ fr' = [(17, some (.s w)), (19, some (.s (.int .i64 (sumGo 0 S).1))), (20, some (.s (.bool (sumGo 0 S).2))), (21, some (.s (.int .i64 (sumGo 0 S).1))), (22, some (.s (.bool (sumGo 0 S).2))), (23, some (.s (.int .i64 (minL S)))), (24, some (.s (.bool (decide (0 < S.length)))))]) (fun Φ hΦ => ?_) ?_
      · refine WPl.inv2 (fun n fr h' => h' = h3 ∧ ∃ (k : Nat), k ≤ S.length ∧ n = S.length - k ∧
          fr = [(17, some (.s w)), (19, some (.s (.int .i64 (sumGo 0 S).1))), (20, some (.s (.bool (sumGo 0 S).2))), (21, some (.s (.int .i64 (sumGo 0 S).1))), (22, some (.s (.bool (sumGo 0 S).2))), (23, some (.s (.int .i64 (minL S)))), (24, some (.s (.bool (decide (0 < S.length))))), (134, some (.s w)), (135, some (.s (.int .i64 S.length))), (136, some (.s (.int .i64 k)))]) ?_ _ _ _ ⟨rfl, 0, Nat.zero_le _, rfl, by simp⟩
        rintro I hI n fr h' ⟨rfl, k, hk, rfl, rfl⟩
        refine ⟨by simp [keepF, fget], ?_⟩
        by_cases hlt : k < S.length
        · obtain ⟨j, p, o, ob, vs, rfl, q2, q3, q4⟩ := rS.int hlt
          have hx := minL_le _ (List.getElem_mem hlt)
          have hx' : ¬ S[k] < minL S := by omega
          have w3 : IntKind.i64.wrap ((k : Int) + 1) = ((k + 1 : Nat) : Int) := wrap_small (by omega) (by omega)
          simp [wpk_skip, wpk_seq, k_cond, wpk_block, wpk_exit, wpk_ret, wpk_loop, k_ops, k_draw0, t_nil, t_cons, KT_eq, KD_eq, wpo_nil, k_cons, k_step, mt_some, mtk_some, KO_eq, KP_eq, K_normal, K_ret, K_exit, KB_normal, KB_ret, KB_exit, KL_normal, KL_ret, KL_exit, k_ret, k_normal, stepE, isCall, calleeE, opE, wantE, odE, odS, odL, odSL, fget, fput, initE, keepF, List.map_cons, List.map_nil, binE, intOp, strOp, shOp, unE, eqpE, eqnE, neqB, ressE, resE, packL, packE, flat1, fcells, fillE, setL, cellsOf_bind, cellsO_own, cellsO_ro, lenE_sl, lenE_nils, lenE_sl0, bound, rep, minE, maxE, List.getElem?_cons_zero, List.getElem?_cons_succ, get_lt, set_lt, get_len, get_len_add, set_len, set_len_add, List.append_assoc, List.cons_append, List.nil_append, -getElem?_pos, l9_1_2, l9_1_1, l9_1, hlt, q2, q3, q4, hx', w3]
          exact ⟨_, by omega, hI _ _ _ ⟨rfl, k + 1, hlt, rfl, by simp⟩⟩
        · obtain rfl : k = S.length := by omega
          simp [wpk_skip, wpk_seq, k_cond, wpk_block, wpk_exit, wpk_ret, wpk_loop, k_ops, k_draw0, t_nil, t_cons, KT_eq, KD_eq, wpo_nil, k_cons, k_step, mt_some, mtk_some, KO_eq, KP_eq, K_normal, K_ret, K_exit, KB_normal, KB_ret, KB_exit, KL_normal, KL_ret, KL_exit, k_ret, k_normal, stepE, isCall, calleeE, opE, wantE, odE, odS, odL, odSL, fget, fput, initE, keepF, List.map_cons, List.map_nil, binE, intOp, strOp, shOp, unE, eqpE, eqnE, neqB, ressE, resE, packL, packE, flat1, fcells, fillE, setL, cellsOf_bind, cellsO_own, cellsO_ro, lenE_sl, lenE_nils, lenE_sl0, bound, rep, minE, maxE, List.getElem?_cons_zero, List.getElem?_cons_succ, get_lt, set_lt, get_len, get_len_add, set_len, set_len_add, List.append_assoc, List.cons_append, List.nil_append, -getElem?_pos, l9_1_2, l9_1_1, l9_1, hlt]
          exact hΦ _ _ _ ⟨rfl, rfl, by simp⟩
      · rintro x fr' h4 ⟨rfl, rfl, rfl⟩
        have hz0 : ((S.length : Int) == 0) = decide (S.length = 0) := by
          by_cases c : S.length = 0
          · rw [decide_eq_true c]; simpa using c
          · rw [decide_eq_false c]; simpa using c
        simp [wpk_skip, wpk_seq, k_cond, wpk_block, wpk_exit, wpk_ret, wpk_loop, k_ops, k_draw0, t_nil, t_cons, KT_eq, KD_eq, wpo_nil, k_cons, k_step, mt_some, mtk_some, KO_eq, KP_eq, K_normal, K_ret, K_exit, KB_normal, KB_ret, KB_exit, KL_normal, KL_ret, KL_exit, k_ret, k_normal, stepE, isCall, calleeE, opE, wantE, odE, odS, odL, odSL, fget, fput, initE, keepF, List.map_cons, List.map_nil, binE, intOp, strOp, shOp, unE, eqpE, eqnE, neqB, ressE, resE, packL, packE, flat1, fcells, fillE, setL, cellsOf_bind, cellsO_own, cellsO_ro, lenE_sl, lenE_nils, lenE_sl0, bound, rep, minE, maxE, List.getElem?_cons_zero, List.getElem?_cons_succ, get_lt, set_lt, get_len, get_len_add, set_len, set_len_add, List.append_assoc, List.cons_append, List.nil_append, -getElem?_pos, s9_14, s9_15, rl, hz0]
        refine WPl.inv2 (fun n fr h' => h' = h4 ∧ ∃ (k : Nat), k ≤ S.length ∧ n = S.length - k ∧
          fr = [(17, some (.s w)), (19, some (.s (.int .i64 (sumGo 0 S).1))), (20, some (.s (.bool (sumGo 0 S).2))), (21, some (.s (.int .i64 (sumGo 0 S).1))), (22, some (.s (.bool (sumGo 0 S).2))), (23, some (.s (.int .i64 (minL S)))), (24, some (.s (.bool (decide (0 < S.length))))), (27, some (.s (.bool (decide (S.length = 0) || (S.take k).any (· == minL S))))), (147, some (.s w)), (148, some (.s (.int .i64 S.length))), (149, some (.s (.int .i64 k)))]) ?_ _ _ _ ⟨rfl, 0, Nat.zero_le _, rfl, by simp⟩
        rintro I hI n fr h' ⟨rfl, k, hk, rfl, rfl⟩
        refine ⟨by simp [keepF, fget], ?_⟩
        by_cases hlt : k < S.length
        · obtain ⟨j, p, o, ob, vs, rfl, q2, q3, q4⟩ := rS.int hlt
          have w3 : IntKind.i64.wrap ((k : Int) + 1) = ((k + 1 : Nat) : Int) := wrap_small (by omega) (by omega)
          have hne : S.length ≠ 0 := by omega
          have ha' : (S.take (k + 1)).any (· == minL S) = ((S.take k).any (· == minL S) || (S[k] == minL S)) := by rw [List.take_succ_eq_append_getElem hlt, List.any_append]; simp
          have fin : ∃ m, m < S.length - k ∧ I m [(17, some (.s (.sl j p o S.length))), (19, some (.s (.int .i64 (sumGo 0 S).1))), (20, some (.s (.bool (sumGo 0 S).2))), (21, some (.s (.int .i64 (sumGo 0 S).1))), (22, some (.s (.bool (sumGo 0 S).2))), (23, some (.s (.int .i64 (minL S)))), (24, some (.s (.bool (decide (0 < S.length))))), (27, some (.s (.bool ((S.take k).any (· == minL S) || (S[k] == minL S))))), (147, some (.s (.sl j p o S.length))), (148, some (.s (.int .i64 S.length))), (149, some (.s (.int .i64 ((k : Int) + 1))))] h' :=
            ⟨_, by omega, hI _ _ _ ⟨rfl, k + 1, hlt, rfl, by rw [ha', decide_eq_false hne]; rfl⟩⟩
          rw [decide_eq_false hne, Bool.false_or]
          cases hb : (S.take k).any (· == minL S) with
          | true =>
            rw [hb] at fin
            simp [wpk_skip, wpk_seq, k_cond, wpk_block, wpk_exit, wpk_ret, wpk_loop, k_ops, k_draw0, t_nil, t_cons, KT_eq, KD_eq, wpo_nil, k_cons, k_step, mt_some, mtk_some, KO_eq, KP_eq, K_normal, K_ret, K_exit, KB_normal, KB_ret, KB_exit, KL_normal, KL_ret, KL_exit, k_ret, k_normal, stepE, isCall, calleeE, opE, wantE, odE, odS, odL, odSL, fget, fput, initE, keepF, List.map_cons, List.map_nil, binE, intOp, strOp, shOp, unE, eqpE, eqnE, neqB, ressE, resE, packL, packE, flat1, fcells, fillE, setL, cellsOf_bind, cellsO_own, cellsO_ro, lenE_sl, lenE_nils, lenE_sl0, bound, rep, minE, maxE, List.getElem?_cons_zero, List.getElem?_cons_succ, get_lt, set_lt, get_len, get_len_add, set_len, set_len_add, List.append_assoc, List.cons_append, List.nil_append, -getElem?_pos, l9_2_2, l9_2_1, l9_2, hlt, q2, q3, q4, w3]
            simpa using fin
          | false =>
            rw [hb] at fin
            simp [wpk_skip, wpk_seq, k_cond, wpk_block, wpk_exit, wpk_ret, wpk_loop, k_ops, k_draw0, t_nil, t_cons, KT_eq, KD_eq, wpo_nil, k_cons, k_step, mt_some, mtk_some, KO_eq, KP_eq, K_normal, K_ret, K_exit, KB_normal, KB_ret, KB_exit, KL_normal, KL_ret, KL_exit, k_ret, k_normal, stepE, isCall, calleeE, opE, wantE, odE, odS, odL, odSL, fget, fput, initE, keepF, List.map_cons, List.map_nil, binE, intOp, strOp, shOp, unE, eqpE, eqnE, neqB, ressE, resE, packL, packE, flat1, fcells, fillE, setL, cellsOf_bind, cellsO_own, cellsO_ro, lenE_sl, lenE_nils, lenE_sl0, bound, rep, minE, maxE, List.getElem?_cons_zero, List.getElem?_cons_succ, get_lt, set_lt, get_len, get_len_add, set_len, set_len_add, List.append_assoc, List.cons_append, List.nil_append, -getElem?_pos, l9_2_2, l9_2_1, l9_2, hlt, q2, q3, q4, w3]
            simpa using fin
        · obtain rfl : k = S.length := by omega
          have hin : (decide (S.length = 0) || (S.take S.length).any (· == minL S)) = true := by
            rw [List.take_length]
            by_cases c : S.length = 0
            · rw [decide_eq_true c]; rfl
            · have := minL_mem (l := S) (fun e => c (by rw [e]; rfl))
              have : S.any (· == minL S) = true := List.any_eq_true.2 ⟨_, this, by simp⟩
              rw [this]; simp
          rw [hin]
          have e3 : ((sumGo 0 S).1 == (sumGo 0 S).1) = true := by simp
          by_cases c : 0 < S.length
          · have c' : (0 : Int) < S.length := by omega
            simp [wpk_skip, wpk_seq, k_cond, wpk_block, wpk_exit, wpk_ret, wpk_loop, k_ops, k_draw0, t_nil, t_cons, KT_eq, KD_eq, wpo_nil, k_cons, k_step, mt_some, mtk_some, KO_eq, KP_eq, K_normal, K_ret, K_exit, KB_normal, KB_ret, KB_exit, KL_normal, KL_ret, KL_exit, k_ret, k_normal, stepE, isCall, calleeE, opE, wantE, odE, odS, odL, odSL, fget, fput, initE, keepF, List.map_cons, List.map_nil, binE, intOp, strOp, shOp, unE, eqpE, eqnE, neqB, ressE, resE, packL, packE, flat1, fcells, fillE, setL, cellsOf_bind, cellsO_own, cellsO_ro, lenE_sl, lenE_nils, lenE_sl0, bound, rep, minE, maxE, List.getElem?_cons_zero, List.getElem?_cons_succ, get_lt, set_lt, get_len, get_len_add, set_len, set_len_add, List.append_assoc, List.cons_append, List.nil_append, -getElem?_pos, l9_2_2, l9_2_1, l9_2, hlt, s9_16, rl, e3, c, c', wakes_ok]
            exact hΨ _ _ rfl
          · obtain rfl : S = [] := List.eq_nil_of_length_eq_zero (by omega)
            simp [wpk_skip, wpk_seq, k_cond, wpk_block, wpk_exit, wpk_ret, wpk_loop, k_ops, k_draw0, t_nil, t_cons, KT_eq, KD_eq, wpo_nil, k_cons, k_step, mt_some, mtk_some, KO_eq, KP_eq, K_normal, K_ret, K_exit, KB_normal, KB_ret, KB_exit, KL_normal, KL_ret, KL_exit, k_ret, k_normal, stepE, isCall, calleeE, opE, wantE, odE, odS, odL, odSL, fget, fput, initE, keepF, List.map_cons, List.map_nil, binE, intOp, strOp, shOp, unE, eqpE, eqnE, neqB, ressE, resE, packL, packE, flat1, fcells, fillE, setL, cellsOf_bind, cellsO_own, cellsO_ro, lenE_sl, lenE_nils, lenE_sl0, bound, rep, minE, maxE, List.getElem?_cons_zero, List.getElem?_cons_succ, get_lt, set_lt, get_len, get_len_add, set_len, set_len_add, List.append_assoc, List.cons_append, List.nil_append, -getElem?_pos, l9_2_2, l9_2_1, l9_2, hlt, s9_16, rl, e3, minL, wakes_ok]
            exact hΨ _ _ rfl
  have second : ∀ (n r : Int) (h1 : LH) (x : Fr), Gr h0 h1 → WPk C s9_2 ((0, some (.s (.int .i64 n))) :: (1, some (.s (.int .i64 r))) :: (2, some (.s (.int .i64 how))) :: (3, some (.s av)) :: x) h1 (KR [.tmp 8] Ψ) := by
    intro n r h1 x g1
    have y1 := fun h => within_ok n 800000000005 (by omega) h
    have y2 := fun h => within_ok r 10000003 (by omega) h
    have b1 : 0 ≤ n % 800000000005 ∧ n % 800000000005 < 800000000005 := by omega
    have b2 : 0 ≤ r % 10000003 ∧ r % 10000003 < 10000003 := by omega
    generalize n % 800000000005 = p at y1 b1
    generalize r % 10000003 = q at y2 b2
    have w1 : IntKind.i64.wrap (p - 400000000000) = p - 400000000000 := wrap_small (by omega) (by omega)
    have w2 : IntKind.i64.wrap (p - 400000000000 - 2) = p - 400000000000 - 2 := wrap_small (by omega) (by omega)
    have w3 : IntKind.i64.wrap (q - 1) = q - 1 := wrap_small (by omega) (by omega)
    cases c : how.tmod 7 == 1 with
    | true =>
      simp [wpk_skip, wpk_seq, k_cond, wpk_block, wpk_exit, wpk_ret, wpk_loop, k_ops, k_draw0, t_nil, t_cons, KT_eq, KD_eq, wpo_nil, k_cons, k_step, mt_some, mtk_some, KO_eq, KP_eq, K_normal, K_ret, K_exit, KB_normal, KB_ret, KB_exit, KL_normal, KL_ret, KL_exit, k_ret, k_normal, stepE, isCall, calleeE, opE, wantE, odE, odS, odL, odSL, fget, fput, initE, keepF, List.map_cons, List.map_nil, binE, intOp, strOp, shOp, unE, eqpE, eqnE, neqB, ressE, resE, packL, packE, flat1, fcells, fillE, setL, cellsOf_bind, cellsO_own, cellsO_ro, lenE_sl, lenE_nils, lenE_sl0, bound, rep, minE, maxE, List.getElem?_cons_zero, List.getElem?_cons_succ, get_lt, set_lt, get_len, get_len_add, set_len, set_len_add, List.append_assoc, List.cons_append, List.nil_append, -getElem?_pos, s9_2, c, y1, y2, w1, w2, w3]
      exact main _ _ _ _ g1
    | false =>
      simp [wpk_skip, wpk_seq, k_cond, wpk_block, wpk_exit, wpk_ret, wpk_loop, k_ops, k_draw0, t_nil, t_cons, KT_eq, KD_eq, wpo_nil, k_cons, k_step, mt_some, mtk_some, KO_eq, KP_eq, K_normal, K_ret, K_exit, KB_normal, KB_ret, KB_exit, KL_normal, KL_ret, KL_exit, k_ret, k_normal, stepE, isCall, calleeE, opE, wantE, odE, odS, odL, odSL, fget, fput, initE, keepF, List.map_cons, List.map_nil, binE, intOp, strOp, shOp, unE, eqpE, eqnE, neqB, ressE, resE, packL, packE, flat1, fcells, fillE, setL, cellsOf_bind, cellsO_own, cellsO_ro, lenE_sl, lenE_nils, lenE_sl0, bound, rep, minE, maxE, List.getElem?_cons_zero, List.getElem?_cons_succ, get_lt, set_lt, get_len, get_len_add, set_len, set_len_add, List.append_assoc, List.cons_append, List.nil_append, -getElem?_pos, s9_2, c]
      exact main _ _ _ _ g1
  cases c : how.tmod 3 != 0 with
  | true =>
    simp [wpk_skip, wpk_seq, k_cond, wpk_block, wpk_exit, wpk_ret, wpk_loop, k_ops, k_draw0, t_nil, t_cons, KT_eq, KD_eq, wpo_nil, k_cons, k_step, mt_some, mtk_some, KO_eq, KP_eq, K_normal, K_ret, K_exit, KB_normal, KB_ret, KB_exit, KL_normal, KL_ret, KL_exit, k_ret, k_normal, stepE, isCall, calleeE, opE, wantE, odE, odS, odL, odSL, fget, fput, initE, keepF, List.map_cons, List.map_nil, binE, intOp, strOp, shOp, unE, eqpE, eqnE, neqB, ressE, resE, packL, packE, flat1, fcells, fillE, setL, cellsOf_bind, cellsO_own, cellsO_ro, lenE_sl, lenE_nils, lenE_sl0, bound, rep, minE, maxE, List.getElem?_cons_zero, List.getElem?_cons_succ, get_lt, set_lt, get_len, get_len_add, set_len, set_len_add, List.append_assoc, List.cons_append, List.nil_append, -getElem?_pos, b9, s9_1, c, amount_ok hn0, rate_ok]
    exact second _ _ _ _ (Gr.self _ _)
  | false =>
    simp [wpk_skip, wpk_seq, k_cond, wpk_block, wpk_exit, wpk_ret, wpk_loop, k_ops, k_draw0, t_nil, t_cons, KT_eq, KD_eq, wpo_nil, k_cons, k_step, mt_some, mtk_some, KO_eq, KP_eq, K_normal, K_ret, K_exit, KB_normal, KB_ret, KB_exit, KL_normal, KL_ret, KL_exit, k_ret, k_normal, stepE, isCall, calleeE, opE, wantE, odE, odS, odL, odSL, fget, fput, initE, keepF, List.map_cons, List.map_nil, binE, intOp, strOp, shOp, unE, eqpE, eqnE, neqB, ressE, resE, packL, packE, flat1, fcells, fillE, setL, cellsOf_bind, cellsO_own, cellsO_ro, lenE_sl, lenE_nils, lenE_sl0, bound, rep, minE, maxE, List.getElem?_cons_zero, List.getElem?_cons_succ, get_lt, set_lt, get_len, get_len_add, set_len, set_len_add, List.append_assoc, List.cons_append, List.nil_append, -getElem?_pos, b9, s9_1, c]
    exact second _ _ _ _ (Gr.refl _)
end Go.Proofs.Ytalelfjjigfpeaa.Ev.CQ
