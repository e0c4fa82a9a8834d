/- The document's measure on the small machine. -/
import Derived.Test.YtcimcccnhbbncaaRegD
import Derived.Test.YtcimcccnhbbncaaRrA
set_option linter.unusedSimpArgs false
set_option linter.unusedVariables false
namespace Go.Proofs.Ytcimcccnhbbncaa.Ev.CE
open Go
namespace Mt
theorem ofF_pos {n r : Int} (hn : 0 ≤ n) (hr : 0 ≤ r) : ofF n r = if 1000000 ≤ 2 * ((n * r) % 1000000) then n * r / 1000000 + 1 else n * r / 1000000 := by
  unfold ofF
  have hx : 0 ≤ n * r := Int.mul_nonneg hn hr
  have e : 2 * n * r = 2 * (n * r) := Int.mul_assoc _ _ _
  rw [if_neg (by omega), e]
  generalize n * r = x at hx
  rw [Int.tdiv_eq_ediv_of_nonneg (by omega)]
  split <;> omega
theorem ofF_neg {n r : Int} (hn : n < 0) : ofF n r = -ofF (-n) r := by
  unfold ofF
  rw [if_pos hn, if_neg (by omega)]
  have e : 2 * n * r - 1000000 = -(2 * -n * r + 1000000) := by
    rw [Int.mul_neg, Int.neg_mul]; omega
  rw [e, Int.neg_tdiv]
theorem rof_pos {n r : Int} (hk : ofOk n r) (hn : 0 ≤ n) (h : LH) : callX C 57 [.s (.int .i64 n), .s (.int .i64 r)] h = some (.tup [.s (.int .i64 (ofF n r)), .s (.bool true)], h) := by
  apply callX_wp
  refine WPc.intro (e := e57) rfl (by simp [e57]) ?_
  show WPk C b57 _ _ (KR [.tmp 4, .tmp 5] _)
  have hk' := hk
  unfold ofOk at hk'
  have a1 : ¬ n < -400000000000 := by omega
  have a2 : ¬ n > 400000000000 := by omega
  have a3 : ¬ r < 0 := by omega
  have a4 : ¬ r > 10000000 := by omega
  have a5 : ¬ n < 0 := by omega
  have b := mul_bounds (n := n) (r := r) (N := 400000000000) (R := 10000000) (by omega) (by omega) (by omega)
  have b0 : 0 ≤ n * r := Int.mul_nonneg hn (by omega)
  rw [ofF_pos hn (by omega)]
  have w1 : IntKind.i64.wrap (n * r) = n * r := wrap_small (by omega) (by omega)
  obtain ⟨x, hx⟩ : ∃ x, x = n * r := ⟨_, rfl⟩
  rw [← hx] at b b0 w1 ⊢
  have e1 : x.tdiv 1000000 = x / 1000000 := Int.tdiv_eq_ediv_of_nonneg b0
  have e2 : x.tmod 1000000 = x % 1000000 := Int.tmod_eq_emod_of_nonneg b0
  have w2 : IntKind.i64.wrap (x / 1000000) = x / 1000000 := wrap_small (by omega) (by omega)
  have w3 : IntKind.i64.wrap (2 * (x % 1000000)) = 2 * (x % 1000000) := wrap_small (by omega) (by omega)
  have w4 : IntKind.i64.wrap (x / 1000000 + 1) = x / 1000000 + 1 := wrap_small (by omega) (by omega)
  by_cases c : 1000000 ≤ 2 * (x % 1000000)
  · simp [wpk_skip, wpk_seq, k_cond, wpk_block, wpk_exit, wpk_ret, wpk_loop, k_ops, k_draw0, t_nil, t_cons, KT_eq, KD_eq, wpo_nil, k_cons, k_step, mt_some, mtk_some, KO_eq, KP_eq, K_normal, K_ret, K_exit, KB_normal, KB_ret, KB_exit, KL_normal, KL_ret, KL_exit, k_ret, k_normal, stepE, isCall, calleeE, opE, wantE, odE, odS, odL, odSL, fget, fput, initE, keepF, List.map_cons, List.map_nil, binE, intOp, strOp, shOp, unE, eqpE, eqnE, neqB, ressE, resE, packL, packE, flat1, fcells, fillE, setL, cellsOf_bind, cellsO_own, cellsO_ro, lenE_sl, lenE_nils, lenE_sl0, bound, rep, minE, maxE, List.getElem?_cons_zero, List.getElem?_cons_succ, get_lt, set_lt, get_len, get_len_add, set_len, set_len_add, List.append_assoc, List.cons_append, List.nil_append, -getElem?_pos, b57, s57_6, s57_5, s57_4, s57_3, s57_2, s57_1, a1, a2, a3, a4, a5, ← hx, w1, e1, e2, w2, w3, w4, c]
  · simp [wpk_skip, wpk_seq, k_cond, wpk_block, wpk_exit, wpk_ret, wpk_loop, k_ops, k_draw0, t_nil, t_cons, KT_eq, KD_eq, wpo_nil, k_cons, k_step, mt_some, mtk_some, KO_eq, KP_eq, K_normal, K_ret, K_exit, KB_normal, KB_ret, KB_exit, KL_normal, KL_ret, KL_exit, k_ret, k_normal, stepE, isCall, calleeE, opE, wantE, odE, odS, odL, odSL, fget, fput, initE, keepF, List.map_cons, List.map_nil, binE, intOp, strOp, shOp, unE, eqpE, eqnE, neqB, ressE, resE, packL, packE, flat1, fcells, fillE, setL, cellsOf_bind, cellsO_own, cellsO_ro, lenE_sl, lenE_nils, lenE_sl0, bound, rep, minE, maxE, List.getElem?_cons_zero, List.getElem?_cons_succ, get_lt, set_lt, get_len, get_len_add, set_len, set_len_add, List.append_assoc, List.cons_append, List.nil_append, -getElem?_pos, b57, s57_6, s57_5, s57_4, s57_3, s57_2, s57_1, a1, a2, a3, a4, a5, ← hx, w1, e1, e2, w2, w3, w4, c]
theorem rof_ok (n r : Int) (h : LH) : callX C 57 [.s (.int .i64 n), .s (.int .i64 r)] h = some (if ofOk n r then .tup [.s (.int .i64 (ofF n r)), .s (.bool true)] else .tup [.s (.int .i64 0), .s (.bool false)], h) := by
  by_cases hk : ofOk n r
  · rw [if_pos hk]
    by_cases hn : 0 ≤ n
    · exact rof_pos hk hn h
    · apply callX_wp
      refine WPc.intro (e := e57) rfl (by simp [e57]) ?_
      show WPk C b57 _ _ (KR [.tmp 4, .tmp 5] _)
      have hk' := hk
      unfold ofOk at hk'
      have a1 : ¬ n < -400000000000 := by omega
      have a2 : ¬ n > 400000000000 := by omega
      have a3 : ¬ r < 0 := by omega
      have a4 : ¬ r > 10000000 := by omega
      have a5 : n < 0 := by omega
      have w0 : IntKind.i64.wrap (-n) = -n := wrap_small (by omega) (by omega)
      have p := rof_pos (n := -n) (r := r) (by unfold ofOk; omega) (by omega) h
      have b := mul_bounds (n := -n) (r := r) (N := 400000000000) (R := 10000000) (by omega) (by omega) (by omega)
      have hp := ofF_pos (n := -n) (r := r) (by omega) (by omega)
      rw [ofF_neg a5]
      have bo : -4000000000001 ≤ ofF (-n) r ∧ ofF (-n) r ≤ 4000000000001 := by
        rw [hp]
        have b0 : 0 ≤ -n * r := Int.mul_nonneg (by omega) (by omega)
        generalize -n * r = x at *
        split <;> omega
      generalize ofF (-n) r = q at *
      have w1 : IntKind.i64.wrap (-q) = -q := wrap_small (by omega) (by omega)
      simp [wpk_skip, wpk_seq, k_cond, wpk_block, wpk_exit, wpk_ret, wpk_loop, k_ops, k_draw0, t_nil, t_cons, KT_eq, KD_eq, wpo_nil, k_cons, k_step, mt_some, mtk_some, KO_eq, KP_eq, K_normal, K_ret, K_exit, KB_normal, KB_ret, KB_exit, KL_normal, KL_ret, KL_exit, k_ret, k_normal, stepE, isCall, calleeE, opE, wantE, odE, odS, odL, odSL, fget, fput, initE, keepF, List.map_cons, List.map_nil, binE, intOp, strOp, shOp, unE, eqpE, eqnE, neqB, ressE, resE, packL, packE, flat1, fcells, fillE, setL, cellsOf_bind, cellsO_own, cellsO_ro, lenE_sl, lenE_nils, lenE_sl0, bound, rep, minE, maxE, List.getElem?_cons_zero, List.getElem?_cons_succ, get_lt, set_lt, get_len, get_len_add, set_len, set_len_add, List.append_assoc, List.cons_append, List.nil_append, -getElem?_pos, b57, s57_6, s57_5, s57_4, s57_3, s57_2, s57_1, a1, a2, a3, a4, a5, w0, p, w1]
  · rw [if_neg hk]
    apply callX_wp
    refine WPc.intro (e := e57) rfl (by simp [e57]) ?_
    show WPk C b57 _ _ (KR [.tmp 4, .tmp 5] _)
    unfold ofOk at hk
    by_cases a1 : n < -400000000000
    · simp [wpk_skip, wpk_seq, k_cond, wpk_block, wpk_exit, wpk_ret, wpk_loop, k_ops, k_draw0, t_nil, t_cons, KT_eq, KD_eq, wpo_nil, k_cons, k_step, mt_some, mtk_some, KO_eq, KP_eq, K_normal, K_ret, K_exit, KB_normal, KB_ret, KB_exit, KL_normal, KL_ret, KL_exit, k_ret, k_normal, stepE, isCall, calleeE, opE, wantE, odE, odS, odL, odSL, fget, fput, initE, keepF, List.map_cons, List.map_nil, binE, intOp, strOp, shOp, unE, eqpE, eqnE, neqB, ressE, resE, packL, packE, flat1, fcells, fillE, setL, cellsOf_bind, cellsO_own, cellsO_ro, lenE_sl, lenE_nils, lenE_sl0, bound, rep, minE, maxE, List.getElem?_cons_zero, List.getElem?_cons_succ, get_lt, set_lt, get_len, get_len_add, set_len, set_len_add, List.append_assoc, List.cons_append, List.nil_append, -getElem?_pos, b57, s57_6, s57_5, s57_4, s57_3, s57_2, s57_1, a1]
    by_cases a2 : n > 400000000000
    · simp [wpk_skip, wpk_seq, k_cond, wpk_block, wpk_exit, wpk_ret, wpk_loop, k_ops, k_draw0, t_nil, t_cons, KT_eq, KD_eq, wpo_nil, k_cons, k_step, mt_some, mtk_some, KO_eq, KP_eq, K_normal, K_ret, K_exit, KB_normal, KB_ret, KB_exit, KL_normal, KL_ret, KL_exit, k_ret, k_normal, stepE, isCall, calleeE, opE, wantE, odE, odS, odL, odSL, fget, fput, initE, keepF, List.map_cons, List.map_nil, binE, intOp, strOp, shOp, unE, eqpE, eqnE, neqB, ressE, resE, packL, packE, flat1, fcells, fillE, setL, cellsOf_bind, cellsO_own, cellsO_ro, lenE_sl, lenE_nils, lenE_sl0, bound, rep, minE, maxE, List.getElem?_cons_zero, List.getElem?_cons_succ, get_lt, set_lt, get_len, get_len_add, set_len, set_len_add, List.append_assoc, List.cons_append, List.nil_append, -getElem?_pos, b57, s57_6, s57_5, s57_4, s57_3, s57_2, s57_1, a1, a2]
    by_cases a3 : r < 0
    · simp [wpk_skip, wpk_seq, k_cond, wpk_block, wpk_exit, wpk_ret, wpk_loop, k_ops, k_draw0, t_nil, t_cons, KT_eq, KD_eq, wpo_nil, k_cons, k_step, mt_some, mtk_some, KO_eq, KP_eq, K_normal, K_ret, K_exit, KB_normal, KB_ret, KB_exit, KL_normal, KL_ret, KL_exit, k_ret, k_normal, stepE, isCall, calleeE, opE, wantE, odE, odS, odL, odSL, fget, fput, initE, keepF, List.map_cons, List.map_nil, binE, intOp, strOp, shOp, unE, eqpE, eqnE, neqB, ressE, resE, packL, packE, flat1, fcells, fillE, setL, cellsOf_bind, cellsO_own, cellsO_ro, lenE_sl, lenE_nils, lenE_sl0, bound, rep, minE, maxE, List.getElem?_cons_zero, List.getElem?_cons_succ, get_lt, set_lt, get_len, get_len_add, set_len, set_len_add, List.append_assoc, List.cons_append, List.nil_append, -getElem?_pos, b57, s57_6, s57_5, s57_4, s57_3, s57_2, s57_1, a1, a2, a3]
    have a4 : r > 10000000 := by omega
    simp [wpk_skip, wpk_seq, k_cond, wpk_block, wpk_exit, wpk_ret, wpk_loop, k_ops, k_draw0, t_nil, t_cons, KT_eq, KD_eq, wpo_nil, k_cons, k_step, mt_some, mtk_some, KO_eq, KP_eq, K_normal, K_ret, K_exit, KB_normal, KB_ret, KB_exit, KL_normal, KL_ret, KL_exit, k_ret, k_normal, stepE, isCall, calleeE, opE, wantE, odE, odS, odL, odSL, fget, fput, initE, keepF, List.map_cons, List.map_nil, binE, intOp, strOp, shOp, unE, eqpE, eqnE, neqB, ressE, resE, packL, packE, flat1, fcells, fillE, setL, cellsOf_bind, cellsO_own, cellsO_ro, lenE_sl, lenE_nils, lenE_sl0, bound, rep, minE, maxE, List.getElem?_cons_zero, List.getElem?_cons_succ, get_lt, set_lt, get_len, get_len_add, set_len, set_len_add, List.append_assoc, List.cons_append, List.nil_append, -getElem?_pos, b57, s57_6, s57_5, s57_4, s57_3, s57_2, s57_1, a1, a2, a3, a4]

def rateT : List Int := [250000, 300000, 190000, 0, 1000000, 333333, 500000, 1, 125000, 999999]
def rateF (n : Int) : Int := if n.tmod 29 = 28 then n else rateT.getD (n % 10).toNat 0
def rateR (n : Int) : List LO := if n.tmod 29 = 28 then [] else [.own 3 (rateT.map (.int .i64))]
theorem rate_ok (n : Int) (h : LH) : callX C 28 [.s (.int .i64 n)] h = some (.s (.int .i64 (rateF n)), h ++ rateR n) := by
  apply callX_wp
  refine WPc.intro (e := e28) rfl (by simp [e28]) ?_
  show WPk C b28 _ _ (KR [.tmp 2] _)
  unfold rateF rateR
  by_cases e0 : n.tmod 29 = 28
  · simp [wpk_skip, wpk_seq, k_cond, wpk_block, wpk_exit, wpk_ret, wpk_loop, k_ops, k_draw0, t_nil, t_cons, KT_eq, KD_eq, wpo_nil, k_cons, k_step, mt_some, mtk_some, KO_eq, KP_eq, K_normal, K_ret, K_exit, KB_normal, KB_ret, KB_exit, KL_normal, KL_ret, KL_exit, k_ret, k_normal, stepE, isCall, calleeE, opE, wantE, odE, odS, odL, odSL, fget, fput, initE, keepF, List.map_cons, List.map_nil, binE, intOp, strOp, shOp, unE, eqpE, eqnE, neqB, ressE, resE, packL, packE, flat1, fcells, fillE, setL, cellsOf_bind, cellsO_own, cellsO_ro, lenE_sl, lenE_nils, lenE_sl0, bound, rep, minE, maxE, List.getElem?_cons_zero, List.getElem?_cons_succ, get_lt, set_lt, get_len, get_len_add, set_len, set_len_add, List.append_assoc, List.cons_append, List.nil_append, -getElem?_pos, b28, s28_2, s28_1, e0]
  · have c1 := Int.emod_lt_of_pos n (show (0:Int) < 10 by omega)
    have c2 := Int.emod_nonneg n (show (10:Int) ≠ 0 by omega)
    have w := fun h => within_ok n 10 (by omega) h
    generalize n % 10 = r at c1 c2 w
    have hr : r = 0 ∨ r = 1 ∨ r = 2 ∨ r = 3 ∨ r = 4 ∨ r = 5 ∨ r = 6 ∨ r = 7 ∨ r = 8 ∨ r = 9 := by omega
    simp [wpk_skip, wpk_seq, k_cond, wpk_block, wpk_exit, wpk_ret, wpk_loop, k_ops, k_draw0, t_nil, t_cons, KT_eq, KD_eq, wpo_nil, k_cons, k_step, mt_some, mtk_some, KO_eq, KP_eq, K_normal, K_ret, K_exit, KB_normal, KB_ret, KB_exit, KL_normal, KL_ret, KL_exit, k_ret, k_normal, stepE, isCall, calleeE, opE, wantE, odE, odS, odL, odSL, fget, fput, initE, keepF, List.map_cons, List.map_nil, binE, intOp, strOp, shOp, unE, eqpE, eqnE, neqB, ressE, resE, packL, packE, flat1, fcells, fillE, setL, cellsOf_bind, cellsO_own, cellsO_ro, lenE_sl, lenE_nils, lenE_sl0, bound, rep, minE, maxE, List.getElem?_cons_zero, List.getElem?_cons_succ, get_lt, set_lt, get_len, get_len_add, set_len, set_len_add, List.append_assoc, List.cons_append, List.nil_append, -getElem?_pos, b28, s28_2, s28_1, e0, w, c2, c1]
    rcases hr with rfl | rfl | rfl | rfl | rfl | rfl | rfl | rfl | rfl | rfl <;> simp [wpk_skip, wpk_seq, k_cond, wpk_block, wpk_exit, wpk_ret, wpk_loop, k_ops, k_draw0, t_nil, t_cons, KT_eq, KD_eq, wpo_nil, k_cons, k_step, mt_some, mtk_some, KO_eq, KP_eq, K_normal, K_ret, K_exit, KB_normal, KB_ret, KB_exit, KL_normal, KL_ret, KL_exit, k_ret, k_normal, stepE, isCall, calleeE, opE, wantE, odE, odS, odL, odSL, fget, fput, initE, keepF, List.map_cons, List.map_nil, binE, intOp, strOp, shOp, unE, eqpE, eqnE, neqB, ressE, resE, packL, packE, flat1, fcells, fillE, setL, cellsOf_bind, cellsO_own, cellsO_ro, lenE_sl, lenE_nils, lenE_sl0, bound, rep, minE, maxE, List.getElem?_cons_zero, List.getElem?_cons_succ, get_lt, set_lt, get_len, get_len_add, set_len, set_len_add, List.append_assoc, List.cons_append, List.nil_append, rateT]
theorem rate_64 {n : Int} (hn : is64 n) : is64 (rateF n) := by
  unfold rateF
  split
  · exact hn
  · have c1 := Int.emod_lt_of_pos n (show (0:Int) < 10 by omega)
    have c2 := Int.emod_nonneg n (show (10:Int) ≠ 0 by omega)
    generalize n % 10 = r at c1 c2
    have hr : r = 0 ∨ r = 1 ∨ r = 2 ∨ r = 3 ∨ r = 4 ∨ r = 5 ∨ r = 6 ∨ r = 7 ∨ r = 8 ∨ r = 9 := by omega
    rcases hr with rfl | rfl | rfl | rfl | rfl | rfl | rfl | rfl | rfl | rfl <;> simp [rateT, is64]


end Mt

theorem part_ok (n r : Int) (h : LH) : callX C 49 [.s (.int .i64 n), .s (.int .i64 r)] h = some (.s (.int .i64 (if ofOk n r then ofF n r else 0)), h) := by
  apply callX_wp
  refine WPc.intro (e := e49) rfl (by simp [e49]) ?_
  show WPk C b49 _ _ (KR [.tmp 4] _)
  have q := fun h => Mt.rof_ok n r h
  by_cases hk : ofOk n r
  · simp only [if_pos hk] at q ⊢
    simp [wpk_skip, wpk_seq, k_cond, wpk_block, wpk_exit, wpk_ret, wpk_loop, k_ops, k_draw0, t_nil, t_cons, KT_eq, KD_eq, wpo_nil, k_cons, k_step, mt_some, mtk_some, KO_eq, KP_eq, K_normal, K_ret, K_exit, KB_normal, KB_ret, KB_exit, KL_normal, KL_ret, KL_exit, k_ret, k_normal, stepE, isCall, calleeE, opE, wantE, odE, odS, odL, odSL, fget, fput, initE, keepF, List.map_cons, List.map_nil, binE, intOp, strOp, shOp, unE, eqpE, eqnE, neqB, ressE, resE, packL, packE, flat1, fcells, fillE, setL, cellsOf_bind, cellsO_own, cellsO_ro, lenE_sl, lenE_nils, lenE_sl0, bound, rep, minE, maxE, List.getElem?_cons_zero, List.getElem?_cons_succ, get_lt, set_lt, get_len, get_len_add, set_len, set_len_add, List.append_assoc, List.cons_append, List.nil_append, -getElem?_pos, b49, s49_2, s49_1, q]
  · simp only [if_neg hk] at q ⊢
    simp [wpk_skip, wpk_seq, k_cond, wpk_block, wpk_exit, wpk_ret, wpk_loop, k_ops, k_draw0, t_nil, t_cons, KT_eq, KD_eq, wpo_nil, k_cons, k_step, mt_some, mtk_some, KO_eq, KP_eq, K_normal, K_ret, K_exit, KB_normal, KB_ret, KB_exit, KL_normal, KL_ret, KL_exit, k_ret, k_normal, stepE, isCall, calleeE, opE, wantE, odE, odS, odL, odSL, fget, fput, initE, keepF, List.map_cons, List.map_nil, binE, intOp, strOp, shOp, unE, eqpE, eqnE, neqB, ressE, resE, packL, packE, flat1, fcells, fillE, setL, cellsOf_bind, cellsO_own, cellsO_ro, lenE_sl, lenE_nils, lenE_sl0, bound, rep, minE, maxE, List.getElem?_cons_zero, List.getElem?_cons_succ, get_lt, set_lt, get_len, get_len_add, set_len, set_len_add, List.append_assoc, List.cons_append, List.nil_append, -getElem?_pos, b49, s49_2, s49_1, q]
theorem share_ok (n r : Int) (h : LH) : callX C 31 [.s (.int .i64 n), .s (.int .i64 r)] h = some (.tup [.s (.int .i64 (lossF n r).1), .s (.int .i64 (lossF n r).2)], h) := by
  apply callX_wp
  refine WPc.intro (e := e31) rfl (by simp [e31]) ?_
  show WPk C b31 _ _ (KR [.tmp 4, .tmp 5] _)
  unfold lossF
  have r1 := fun h => rright_ok r h
  have q := fun h => part_ok n r h
  by_cases c1 : n < 0
  · rw [if_neg (by omega)]
    simp [wpk_skip, wpk_seq, k_cond, wpk_block, wpk_exit, wpk_ret, wpk_loop, k_ops, k_draw0, t_nil, t_cons, KT_eq, KD_eq, wpo_nil, k_cons, k_step, mt_some, mtk_some, KO_eq, KP_eq, K_normal, K_ret, K_exit, KB_normal, KB_ret, KB_exit, KL_normal, KL_ret, KL_exit, k_ret, k_normal, stepE, isCall, calleeE, opE, wantE, odE, odS, odL, odSL, fget, fput, initE, keepF, List.map_cons, List.map_nil, binE, intOp, strOp, shOp, unE, eqpE, eqnE, neqB, ressE, resE, packL, packE, flat1, fcells, fillE, setL, cellsOf_bind, cellsO_own, cellsO_ro, lenE_sl, lenE_nils, lenE_sl0, bound, rep, minE, maxE, List.getElem?_cons_zero, List.getElem?_cons_succ, get_lt, set_lt, get_len, get_len_add, set_len, set_len_add, List.append_assoc, List.cons_append, List.nil_append, -getElem?_pos, b31, s31_2, s31_1, c1]
  by_cases c2 : n > 100000000000
  · rw [if_neg (by omega)]
    have c2' : 100000000000 < n := c2
    simp [wpk_skip, wpk_seq, k_cond, wpk_block, wpk_exit, wpk_ret, wpk_loop, k_ops, k_draw0, t_nil, t_cons, KT_eq, KD_eq, wpo_nil, k_cons, k_step, mt_some, mtk_some, KO_eq, KP_eq, K_normal, K_ret, K_exit, KB_normal, KB_ret, KB_exit, KL_normal, KL_ret, KL_exit, k_ret, k_normal, stepE, isCall, calleeE, opE, wantE, odE, odS, odL, odSL, fget, fput, initE, keepF, List.map_cons, List.map_nil, binE, intOp, strOp, shOp, unE, eqpE, eqnE, neqB, ressE, resE, packL, packE, flat1, fcells, fillE, setL, cellsOf_bind, cellsO_own, cellsO_ro, lenE_sl, lenE_nils, lenE_sl0, bound, rep, minE, maxE, List.getElem?_cons_zero, List.getElem?_cons_succ, get_lt, set_lt, get_len, get_len_add, set_len, set_len_add, List.append_assoc, List.cons_append, List.nil_append, -getElem?_pos, b31, s31_2, s31_1, c1, c2, c2']
  have c2' : ¬ 100000000000 < n := c2
  by_cases c3 : 0 ≤ r ∧ r ≤ 1000000
  · rw [decide_eq_true c3] at r1
    rw [if_pos (show ofOk n r by unfold ofOk; omega)] at q
    rw [if_pos (by omega)]
    simp [wpk_skip, wpk_seq, k_cond, wpk_block, wpk_exit, wpk_ret, wpk_loop, k_ops, k_draw0, t_nil, t_cons, KT_eq, KD_eq, wpo_nil, k_cons, k_step, mt_some, mtk_some, KO_eq, KP_eq, K_normal, K_ret, K_exit, KB_normal, KB_ret, KB_exit, KL_normal, KL_ret, KL_exit, k_ret, k_normal, stepE, isCall, calleeE, opE, wantE, odE, odS, odL, odSL, fget, fput, initE, keepF, List.map_cons, List.map_nil, binE, intOp, strOp, shOp, unE, eqpE, eqnE, neqB, ressE, resE, packL, packE, flat1, fcells, fillE, setL, cellsOf_bind, cellsO_own, cellsO_ro, lenE_sl, lenE_nils, lenE_sl0, bound, rep, minE, maxE, List.getElem?_cons_zero, List.getElem?_cons_succ, get_lt, set_lt, get_len, get_len_add, set_len, set_len_add, List.append_assoc, List.cons_append, List.nil_append, -getElem?_pos, b31, s31_2, s31_1, c1, c2, c2', r1, q]
  · rw [decide_eq_false c3] at r1
    rw [if_neg (by omega)]
    simp [wpk_skip, wpk_seq, k_cond, wpk_block, wpk_exit, wpk_ret, wpk_loop, k_ops, k_draw0, t_nil, t_cons, KT_eq, KD_eq, wpo_nil, k_cons, k_step, mt_some, mtk_some, KO_eq, KP_eq, K_normal, K_ret, K_exit, KB_normal, KB_ret, KB_exit, KL_normal, KL_ret, KL_exit, k_ret, k_normal, stepE, isCall, calleeE, opE, wantE, odE, odS, odL, odSL, fget, fput, initE, keepF, List.map_cons, List.map_nil, binE, intOp, strOp, shOp, unE, eqpE, eqnE, neqB, ressE, resE, packL, packE, flat1, fcells, fillE, setL, cellsOf_bind, cellsO_own, cellsO_ro, lenE_sl, lenE_nils, lenE_sl0, bound, rep, minE, maxE, List.getElem?_cons_zero, List.getElem?_cons_succ, get_lt, set_lt, get_len, get_len_add, set_len, set_len_add, List.append_assoc, List.cons_append, List.nil_append, -getElem?_pos, b31, s31_2, s31_1, c1, c2, c2', r1]

set_option maxRecDepth 20000 in
theorem rtemp_ok {h : LH} {v w : SV} {bs : List Bu} {rs : List Int} (rb : Rd h 30 3 encB v bs) (rr : Rd h 3 1 encI w rs) (hl : bs.length < 1000) (hl2 : rs.length < 1000) :
    WPc C 29 [.s v, .s w] h fun u h' => Gr h h' ∧ u = .tup [.s (.int .i64 (tempF bs rs).1), .s (.int .i64 (tempF bs rs).2)] := by
  refine WPc.post fun Ψ hΨ => ?_
  refine WPc.intro (e := e29) rfl (by simp [e29]) ?_
  show WPk C b29 _ _ (KR [.tmp 4, .tmp 5] _)
  unfold tempF at hΨ
  by_cases hlen : rs.length = bs.length
  case neg =>
    rw [if_pos hlen] at hΨ
    have hlen' : ((bs.length : Int) != rs.length) = true := by simp; omega
    simp [wpk_skip, wpk_seq, k_cond, wpk_block, wpk_exit, wpk_ret, wpk_loop, k_ops, k_draw0, t_nil, t_cons, KT_eq, KD_eq, wpo_nil, k_cons, k_step, mt_some, mtk_some, KO_eq, KP_eq, K_normal, K_ret, K_exit, KB_normal, KB_ret, KB_exit, KL_normal, KL_ret, KL_exit, k_ret, k_normal, stepE, isCall, calleeE, opE, wantE, odE, odS, odL, odSL, fget, fput, initE, keepF, List.map_cons, List.map_nil, binE, intOp, strOp, shOp, unE, eqpE, eqnE, neqB, ressE, resE, packL, packE, flat1, fcells, fillE, setL, cellsOf_bind, cellsO_own, cellsO_ro, lenE_sl, lenE_nils, lenE_sl0, bound, rep, minE, maxE, List.getElem?_cons_zero, List.getElem?_cons_succ, get_lt, set_lt, get_len, get_len_add, set_len, set_len_add, List.append_assoc, List.cons_append, List.nil_append, -getElem?_pos, b29, s29_5, s29_4, s29_3, s29_2, s29_1, rb.len, rr.len, hlen']
    exact hΨ _ _ ⟨Gr.refl _, rfl⟩
  rw [if_neg (by omega)] at hΨ
  have hlen' : ((bs.length : Int) != rs.length) = false := by simp; omega
  simp [wpk_skip, wpk_seq, k_cond, wpk_block, wpk_exit, wpk_ret, wpk_loop, k_ops, k_draw0, t_nil, t_cons, KT_eq, KD_eq, wpo_nil, k_cons, k_step, mt_some, mtk_some, KO_eq, KP_eq, K_normal, K_ret, K_exit, KB_normal, KB_ret, KB_exit, KL_normal, KL_ret, KL_exit, k_ret, k_normal, stepE, isCall, calleeE, opE, wantE, odE, odS, odL, odSL, fget, fput, initE, keepF, List.map_cons, List.map_nil, binE, intOp, strOp, shOp, unE, eqpE, eqnE, neqB, ressE, resE, packL, packE, flat1, fcells, fillE, setL, cellsOf_bind, cellsO_own, cellsO_ro, lenE_sl, lenE_nils, lenE_sl0, bound, rep, minE, maxE, List.getElem?_cons_zero, List.getElem?_cons_succ, get_lt, set_lt, get_len, get_len_add, set_len, set_len_add, List.append_assoc, List.cons_append, List.nil_append, -getElem?_pos, b29, s29_5, s29_4, s29_3, s29_2, s29_1, rb.len, rr.len, hlen']
  obtain ⟨T, hT⟩ : ∃ T, T = tempGo 0 bs rs := ⟨_, rfl⟩
  rw [← hT] at hΨ
  refine WPl.inv2 (fun n fr h' => Gr h h' ∧ ∃ (k : Nat) (m : Int), k ≤ bs.length ∧ n = bs.length - k ∧ -200000000000 * k ≤ m ∧ m ≤ 200000000000 * k ∧ tempGo m (bs.drop k) (rs.drop k) = T ∧
    fr = [(1, some (.s w)), (6, some (.s (.int .i64 m))), (14, some (.s v)), (15, some (.s (.int .i64 bs.length))), (16, some (.s (.int .i64 k)))]) ?_ _ _ _ ⟨Gr.refl _, 0, 0, Nat.zero_le _, rfl, by omega, by omega, hT.symm, rfl⟩
  rintro I hI n fr h' ⟨gr, k, m, hk, rfl, m0, m1, he, rfl⟩
  refine ⟨by simp [keepF, fget], ?_⟩
  by_cases hlt : k < bs.length
  · have hltr : k < rs.length := by omega
    obtain ⟨j0, p0, q0, ob0, vs0, rfl, c1, c2, c3, c4, -⟩ := (rb.gr gr).at encB_len hlt
    obtain ⟨j1, p1, q1, ob1, vs1, rfl, d1, d2, d3⟩ := (rr.gr gr).int hltr
    have c5 := lt_of_some c1
    have d5 := lt_of_some d1
    rw [List.drop_eq_getElem_cons hlt, List.drop_eq_getElem_cons hltr] at he
    have w3 : IntKind.i64.wrap ((k : Int) + 1) = ((k + 1 : Nat) : Int) := wrap_small (by omega) (by omega)
    simp only [encB] at c4
    rw [tempGo_cons] at he
    unfold right money at he
    generalize bs[k] = b at *
    generalize rs[k] = r at *
    have r1 := fun h => rright_ok r h
    have r2 := fun h => rmoney_ok b.a h
    by_cases e2 : -100000000000 ≤ b.a ∧ b.a ≤ 100000000000
    case neg =>
      rw [decide_eq_false e2] at he r2
      simp only [Bool.and_false, Bool.false_eq_true, if_false] at he
      simp [wpk_skip, wpk_seq, k_cond, wpk_block, wpk_exit, wpk_ret, wpk_loop, k_ops, k_draw0, t_nil, t_cons, KT_eq, KD_eq, wpo_nil, k_cons, k_step, mt_some, mtk_some, KO_eq, KP_eq, K_normal, K_ret, K_exit, KB_normal, KB_ret, KB_exit, KL_normal, KL_ret, KL_exit, k_ret, k_normal, stepE, isCall, calleeE, opE, wantE, odE, odS, odL, odSL, fget, fput, initE, keepF, List.map_cons, List.map_nil, binE, intOp, strOp, shOp, unE, eqpE, eqnE, neqB, ressE, resE, packL, packE, flat1, fcells, fillE, setL, cellsOf_bind, cellsO_own, cellsO_ro, lenE_sl, lenE_nils, lenE_sl0, bound, rep, minE, maxE, List.getElem?_cons_zero, List.getElem?_cons_succ, get_lt, set_lt, get_len, get_len_add, set_len, set_len_add, List.append_assoc, List.cons_append, List.nil_append, -getElem?_pos, l29_0_2, l29_0_1, l29_0, hlt, hltr, c1, c2, c3, c4, c5, d1, d2, d3, d5, r2]
      exact hΨ _ _ ⟨gr.app _, by rw [← he]⟩
    rw [decide_eq_true e2] at he r2
    by_cases e1 : 0 ≤ r ∧ r ≤ 1000000
    case neg =>
      rw [decide_eq_false e1] at he r1
      simp only [Bool.false_and, Bool.false_eq_true, if_false] at he
      simp [wpk_skip, wpk_seq, k_cond, wpk_block, wpk_exit, wpk_ret, wpk_loop, k_ops, k_draw0, t_nil, t_cons, KT_eq, KD_eq, wpo_nil, k_cons, k_step, mt_some, mtk_some, KO_eq, KP_eq, K_normal, K_ret, K_exit, KB_normal, KB_ret, KB_exit, KL_normal, KL_ret, KL_exit, k_ret, k_normal, stepE, isCall, calleeE, opE, wantE, odE, odS, odL, odSL, fget, fput, initE, keepF, List.map_cons, List.map_nil, binE, intOp, strOp, shOp, unE, eqpE, eqnE, neqB, ressE, resE, packL, packE, flat1, fcells, fillE, setL, cellsOf_bind, cellsO_own, cellsO_ro, lenE_sl, lenE_nils, lenE_sl0, bound, rep, minE, maxE, List.getElem?_cons_zero, List.getElem?_cons_succ, get_lt, set_lt, get_len, get_len_add, set_len, set_len_add, List.append_assoc, List.cons_append, List.nil_append, -getElem?_pos, l29_0_2, l29_0_1, l29_0, hlt, hltr, c1, c2, c3, c4, c5, d1, d2, d3, d5, r1, r2]
      exact hΨ _ _ ⟨gr.app _, by rw [← he]⟩
    rw [decide_eq_true e1] at he r1
    simp only [Bool.and_self, if_true] at he
    have o1 := fun h => part_ok b.a r h
    rw [if_pos (show ofOk b.a r by unfold ofOk; omega)] at o1
    have o2 := ofF_bound e2 e1
    generalize ofF b.a r = q at *
    have w4 : IntKind.i64.wrap (m - q) = m - q := wrap_small (by omega) (by omega)
    simp [wpk_skip, wpk_seq, k_cond, wpk_block, wpk_exit, wpk_ret, wpk_loop, k_ops, k_draw0, t_nil, t_cons, KT_eq, KD_eq, wpo_nil, k_cons, k_step, mt_some, mtk_some, KO_eq, KP_eq, K_normal, K_ret, K_exit, KB_normal, KB_ret, KB_exit, KL_normal, KL_ret, KL_exit, k_ret, k_normal, stepE, isCall, calleeE, opE, wantE, odE, odS, odL, odSL, fget, fput, initE, keepF, List.map_cons, List.map_nil, binE, intOp, strOp, shOp, unE, eqpE, eqnE, neqB, ressE, resE, packL, packE, flat1, fcells, fillE, setL, cellsOf_bind, cellsO_own, cellsO_ro, lenE_sl, lenE_nils, lenE_sl0, bound, rep, minE, maxE, List.getElem?_cons_zero, List.getElem?_cons_succ, get_lt, set_lt, get_len, get_len_add, set_len, set_len_add, List.append_assoc, List.cons_append, List.nil_append, -getElem?_pos, l29_0_2, l29_0_1, l29_0, hlt, hltr, c1, c2, c3, c4, c5, d1, d2, d3, d5, r1, r2, o1, w3, w4]
    exact ⟨_, by omega, hI _ _ _ ⟨gr.app _, k + 1, m - q, hlt, rfl, by omega, by omega, he, rfl⟩⟩
  · obtain rfl : k = bs.length := by omega
    rw [List.drop_eq_nil_of_le (Nat.le_refl _), List.drop_eq_nil_of_le (by omega)] at he
    rw [tempGo_nil] at he
    unfold money at he
    have r2 := fun h => rmoney_ok m h
    by_cases e2 : -100000000000 ≤ m ∧ m ≤ 100000000000
    · rw [decide_eq_true e2] at he r2
      simp only [if_true] at he
      simp [wpk_skip, wpk_seq, k_cond, wpk_block, wpk_exit, wpk_ret, wpk_loop, k_ops, k_draw0, t_nil, t_cons, KT_eq, KD_eq, wpo_nil, k_cons, k_step, mt_some, mtk_some, KO_eq, KP_eq, K_normal, K_ret, K_exit, KB_normal, KB_ret, KB_exit, KL_normal, KL_ret, KL_exit, k_ret, k_normal, stepE, isCall, calleeE, opE, wantE, odE, odS, odL, odSL, fget, fput, initE, keepF, List.map_cons, List.map_nil, binE, intOp, strOp, shOp, unE, eqpE, eqnE, neqB, ressE, resE, packL, packE, flat1, fcells, fillE, setL, cellsOf_bind, cellsO_own, cellsO_ro, lenE_sl, lenE_nils, lenE_sl0, bound, rep, minE, maxE, List.getElem?_cons_zero, List.getElem?_cons_succ, get_lt, set_lt, get_len, get_len_add, set_len, set_len_add, List.append_assoc, List.cons_append, List.nil_append, -getElem?_pos, l29_0_2, l29_0_1, l29_0, hlt, r2]
      exact hΨ _ _ ⟨gr, by rw [← he]⟩
    · rw [decide_eq_false e2] at he r2
      simp only [Bool.false_eq_true, if_false] at he
      simp [wpk_skip, wpk_seq, k_cond, wpk_block, wpk_exit, wpk_ret, wpk_loop, k_ops, k_draw0, t_nil, t_cons, KT_eq, KD_eq, wpo_nil, k_cons, k_step, mt_some, mtk_some, KO_eq, KP_eq, K_normal, K_ret, K_exit, KB_normal, KB_ret, KB_exit, KL_normal, KL_ret, KL_exit, k_ret, k_normal, stepE, isCall, calleeE, opE, wantE, odE, odS, odL, odSL, fget, fput, initE, keepF, List.map_cons, List.map_nil, binE, intOp, strOp, shOp, unE, eqpE, eqnE, neqB, ressE, resE, packL, packE, flat1, fcells, fillE, setL, cellsOf_bind, cellsO_own, cellsO_ro, lenE_sl, lenE_nils, lenE_sl0, bound, rep, minE, maxE, List.getElem?_cons_zero, List.getElem?_cons_succ, get_lt, set_lt, get_len, get_len_add, set_len, set_len_add, List.append_assoc, List.cons_append, List.nil_append, -getElem?_pos, l29_0_2, l29_0_1, l29_0, hlt, r2]
      exact hΨ _ _ ⟨gr, by rw [← he]⟩

set_option maxRecDepth 20000 in
theorem rrates_ok {b : Nat} {h : LH} {i : Nat} {tv v : SV} {l : List Ro} {bs : List Bu} (t : Rt b h i tv l) (j : ByteArray) (rb : Rd h 30 3 encB v bs) (hl : bs.length < 1000) (p : Int) :
    WPc C 26 [.s (.ptr i 0), .s (.str j), .s v, .s (.int .i64 p)] h fun u h' => Gr h h' ∧ ∃ w, u = .tup [.s w, .s (.int .i64 (ratesF l j bs p).2)] ∧ Rd h' 3 1 encI w (ratesF l j bs p).1 := by
  refine WPc.post fun Ψ hΨ => ?_
  refine WPc.intro (e := e26) rfl (by simp [e26]) ?_
  show WPk C b26 _ _ (KR [.tmp 8, .tmp 9] _)
  have r1 := fun h => rperiod_ok p h
  unfold ratesF at hΨ
  by_cases hp : 0 ≤ p ∧ p ≤ 399
  case neg =>
    rw [decide_eq_false hp] at r1
    rw [if_neg hp] at hΨ
    simp [wpk_skip, wpk_seq, k_cond, wpk_block, wpk_exit, wpk_ret, wpk_loop, k_ops, k_draw0, t_nil, t_cons, KT_eq, KD_eq, wpo_nil, k_cons, k_step, mt_some, mtk_some, KO_eq, KP_eq, K_normal, K_ret, K_exit, KB_normal, KB_ret, KB_exit, KL_normal, KL_ret, KL_exit, k_ret, k_normal, stepE, isCall, calleeE, opE, wantE, odE, odS, odL, odSL, fget, fput, initE, keepF, List.map_cons, List.map_nil, binE, intOp, strOp, shOp, unE, eqpE, eqnE, neqB, ressE, resE, packL, packE, flat1, fcells, fillE, setL, cellsOf_bind, cellsO_own, cellsO_ro, lenE_sl, lenE_nils, lenE_sl0, bound, rep, minE, maxE, List.getElem?_cons_zero, List.getElem?_cons_succ, get_lt, set_lt, get_len, get_len_add, set_len, set_len_add, List.append_assoc, List.cons_append, List.nil_append, -getElem?_pos, b26, s26_4, s26_3, s26_2, s26_1, r1]
    exact hΨ _ _ ⟨Gr.refl _, .nils, rfl, .inl ⟨rfl, .inl rfl⟩⟩
  rw [decide_eq_true hp] at r1
  rw [if_pos hp] at hΨ
  have t1 : p.tdiv 4 = p / 4 := Int.tdiv_eq_ediv_of_nonneg hp.1
  have t2 : IntKind.i64.wrap (p / 4) = p / 4 := wrap_small (by omega) (by omega)
  simp [wpk_skip, wpk_seq, k_cond, wpk_block, wpk_exit, wpk_ret, wpk_loop, k_ops, k_draw0, t_nil, t_cons, KT_eq, KD_eq, wpo_nil, k_cons, k_step, mt_some, mtk_some, KO_eq, KP_eq, K_normal, K_ret, K_exit, KB_normal, KB_ret, KB_exit, KL_normal, KL_ret, KL_exit, k_ret, k_normal, stepE, isCall, calleeE, opE, wantE, odE, odS, odL, odSL, fget, fput, initE, keepF, List.map_cons, List.map_nil, binE, intOp, strOp, shOp, unE, eqpE, eqnE, neqB, ressE, resE, packL, packE, flat1, fcells, fillE, setL, cellsOf_bind, cellsO_own, cellsO_ro, lenE_sl, lenE_nils, lenE_sl0, bound, rep, minE, maxE, List.getElem?_cons_zero, List.getElem?_cons_succ, get_lt, set_lt, get_len, get_len_add, set_len, set_len_add, List.append_assoc, List.cons_append, List.nil_append, -getElem?_pos, b26, s26_4, s26_3, s26_2, s26_1, r1, rb.len]
  obtain ⟨T, hT⟩ : ∃ T, T = ratesGo l j p [] bs := ⟨_, rfl⟩
  rw [← hT] at hΨ
  refine WPl.inv2 (fun n fr h' => Gr h h' ∧ ∃ (k : Nat) (w : SV) (acc : List Int), k ≤ bs.length ∧ n = bs.length - k ∧ Ow h.length h' 3 encI w acc ∧ acc.length = k ∧ ratesGo l j p acc (bs.drop k) = T ∧
    fr = [(0, some (.s (.ptr i 0))), (1, some (.s (.str j))), (3, some (.s (.int .i64 p))), (10, some (.s w)), (18, some (.s v)), (19, some (.s (.int .i64 bs.length))), (20, some (.s (.int .i64 k)))]) ?_ _ _ _ ⟨Gr.refl _, 0, .nils, [], Nat.zero_le _, rfl, Ow.nil _ _, rfl, hT.symm, rfl⟩
  rintro I hI n fr h' ⟨gr, k, w, acc, hk, rfl, ow, hacc, he, rfl⟩
  refine ⟨by simp [keepF, fget], ?_⟩
  by_cases hlt : k < bs.length
  · obtain ⟨j0, p0, q0, ob0, vs0, rfl, c1, c2, c3, c4, -⟩ := (rb.gr gr).at encB_len hlt
    have c5 := lt_of_some c1
    rw [List.drop_eq_getElem_cons hlt] at he
    have w3 : IntKind.i64.wrap ((k : Int) + 1) = ((k + 1 : Nat) : Int) := wrap_small (by omega) (by omega)
    simp only [encB] at c4
    rw [ratesGo_cons] at he
    generalize bs[k] = x at *
    have hmx : (if p / 4 > x.y then p / 4 else x.y) = max x.y (p / 4) := by split <;> omega
    have hmx' : (if x.y < p / 4 then p / 4 else x.y) = max x.y (p / 4) := by split <;> omega
    simp [wpk_skip, wpk_seq, k_cond, wpk_block, wpk_exit, wpk_ret, wpk_loop, k_ops, k_draw0, t_nil, t_cons, KT_eq, KD_eq, wpo_nil, k_cons, k_step, mt_some, mtk_some, KO_eq, KP_eq, K_normal, K_ret, K_exit, KB_normal, KB_ret, KB_exit, KL_normal, KL_ret, KL_exit, k_ret, k_normal, stepE, isCall, calleeE, opE, wantE, odE, odS, odL, odSL, fget, fput, initE, keepF, List.map_cons, List.map_nil, binE, intOp, strOp, shOp, unE, eqpE, eqnE, neqB, ressE, resE, packL, packE, flat1, fcells, fillE, setL, cellsOf_bind, cellsO_own, cellsO_ro, lenE_sl, lenE_nils, lenE_sl0, bound, rep, minE, maxE, List.getElem?_cons_zero, List.getElem?_cons_succ, get_lt, set_lt, get_len, get_len_add, set_len, set_len_add, List.append_assoc, List.cons_append, List.nil_append, -getElem?_pos, l26_0_2, l26_0_1, l26_0, hlt, c1, c2, c3, c4, c5, t1, t2, hmx, hmx']
    refine WPc.go (((t.gr gr).gr (Gr.self h' _)).rate j (max x.y (p / 4)) p) ?_
    rintro _ h2 ⟨g2, rfl⟩
    have gg := (gr.trans (Gr.self h' _)).trans g2
    cases hb : bestF j (max x.y (p / 4)) p l with
    | none =>
      rw [hb] at he
      simp only at he
      simp [wpk_skip, wpk_seq, k_cond, wpk_block, wpk_exit, wpk_ret, wpk_loop, k_ops, k_draw0, t_nil, t_cons, KT_eq, KD_eq, wpo_nil, k_cons, k_step, mt_some, mtk_some, KO_eq, KP_eq, K_normal, K_ret, K_exit, KB_normal, KB_ret, KB_exit, KL_normal, KL_ret, KL_exit, k_ret, k_normal, stepE, isCall, calleeE, opE, wantE, odE, odS, odL, odSL, fget, fput, initE, keepF, List.map_cons, List.map_nil, binE, intOp, strOp, shOp, unE, eqpE, eqnE, neqB, ressE, resE, packL, packE, flat1, fcells, fillE, setL, cellsOf_bind, cellsO_own, cellsO_ro, lenE_sl, lenE_nils, lenE_sl0, bound, rep, minE, maxE, List.getElem?_cons_zero, List.getElem?_cons_succ, get_lt, set_lt, get_len, get_len_add, set_len, set_len_add, List.append_assoc, List.cons_append, List.nil_append, -getElem?_pos, ]
      exact hΨ _ _ ⟨gg, .nils, by rw [← he], by rw [← he]; exact .inl ⟨rfl, .inl rfl⟩⟩
    | some y =>
      rw [hb] at he
      simp only at he
      have ow2 := (ow.gr (Gr.self h' _)).gr g2
      have hA := ow2.app1 (y := 8) encI_len (by omega)
      obtain ⟨f1, f2⟩ := Ow.step gg ow2 y.r [LO.own 3 [.int .i64 y.r]] (n := acc.length + 1) (cs := [.int .i64 y.r]) (m := 1) rfl rfl rfl
      simp [wpk_skip, wpk_seq, k_cond, wpk_block, wpk_exit, wpk_ret, wpk_loop, k_ops, k_draw0, t_nil, t_cons, KT_eq, KD_eq, wpo_nil, k_cons, k_step, mt_some, mtk_some, KO_eq, KP_eq, K_normal, K_ret, K_exit, KB_normal, KB_ret, KB_exit, KL_normal, KL_ret, KL_exit, k_ret, k_normal, stepE, isCall, calleeE, opE, wantE, odE, odS, odL, odSL, fget, fput, initE, keepF, List.map_cons, List.map_nil, binE, intOp, strOp, shOp, unE, eqpE, eqnE, neqB, ressE, resE, packL, packE, flat1, fcells, fillE, setL, cellsOf_bind, cellsO_own, cellsO_ro, lenE_sl, lenE_nils, lenE_sl0, bound, rep, minE, maxE, List.getElem?_cons_zero, List.getElem?_cons_succ, get_lt, set_lt, get_len, get_len_add, set_len, set_len_add, List.append_assoc, List.cons_append, List.nil_append, -getElem?_pos, rateOf, elems, hA, w3, ow2.len]
      exact ⟨_, by omega, hI _ _ _ ⟨f1, k + 1, _, acc ++ [y.r], hlt, rfl, f2, by simp [hacc], he, rfl⟩⟩
  · obtain rfl : k = bs.length := by omega
    rw [List.drop_eq_nil_of_le (Nat.le_refl _)] at he
    rw [ratesGo_nil] at he
    simp [wpk_skip, wpk_seq, k_cond, wpk_block, wpk_exit, wpk_ret, wpk_loop, k_ops, k_draw0, t_nil, t_cons, KT_eq, KD_eq, wpo_nil, k_cons, k_step, mt_some, mtk_some, KO_eq, KP_eq, K_normal, K_ret, K_exit, KB_normal, KB_ret, KB_exit, KL_normal, KL_ret, KL_exit, k_ret, k_normal, stepE, isCall, calleeE, opE, wantE, odE, odS, odL, odSL, fget, fput, initE, keepF, List.map_cons, List.map_nil, binE, intOp, strOp, shOp, unE, eqpE, eqnE, neqB, ressE, resE, packL, packE, flat1, fcells, fillE, setL, cellsOf_bind, cellsO_own, cellsO_ro, lenE_sl, lenE_nils, lenE_sl0, bound, rep, minE, maxE, List.getElem?_cons_zero, List.getElem?_cons_succ, get_lt, set_lt, get_len, get_len_add, set_len, set_len_add, List.append_assoc, List.cons_append, List.nil_append, -getElem?_pos, l26_0_2, l26_0_1, l26_0, hlt]
    exact hΨ _ _ ⟨gr, w, by rw [← he], by rw [← he]; exact ow.rd encI_len⟩

theorem rnext_ok {b : Nat} {h : LH} {i : Nat} {tv : SV} {l : List Ro} (t : Rt b h i tv l) (j : ByteArray) (p : Int) :
    WPc C 27 [.s (.ptr i 0), .s (.str j), .s (.int .i64 p)] h fun u h' => Gr h h' ∧ u = .tup [.s (.int .i64 (nextF l j p).1), .s (.int .i64 (nextF l j p).2)] := by
  refine WPc.post fun Ψ hΨ => ?_
  refine WPc.intro (e := e27) rfl (by simp [e27]) ?_
  show WPk C b27 _ _ (KR [.tmp 6, .tmp 7] _)
  have r1 := fun h => rperiod_ok p h
  unfold nextF at hΨ
  by_cases hp : 0 ≤ p ∧ p ≤ 399
  case neg =>
    rw [decide_eq_false hp] at r1
    rw [if_neg hp] at hΨ
    simp [wpk_skip, wpk_seq, k_cond, wpk_block, wpk_exit, wpk_ret, wpk_loop, k_ops, k_draw0, t_nil, t_cons, KT_eq, KD_eq, wpo_nil, k_cons, k_step, mt_some, mtk_some, KO_eq, KP_eq, K_normal, K_ret, K_exit, KB_normal, KB_ret, KB_exit, KL_normal, KL_ret, KL_exit, k_ret, k_normal, stepE, isCall, calleeE, opE, wantE, odE, odS, odL, odSL, fget, fput, initE, keepF, List.map_cons, List.map_nil, binE, intOp, strOp, shOp, unE, eqpE, eqnE, neqB, ressE, resE, packL, packE, flat1, fcells, fillE, setL, cellsOf_bind, cellsO_own, cellsO_ro, lenE_sl, lenE_nils, lenE_sl0, bound, rep, minE, maxE, List.getElem?_cons_zero, List.getElem?_cons_succ, get_lt, set_lt, get_len, get_len_add, set_len, set_len_add, List.append_assoc, List.cons_append, List.nil_append, -getElem?_pos, b27, s27_4, s27_3, s27_2, s27_1, r1]
    exact hΨ _ _ ⟨Gr.refl _, rfl⟩
  rw [decide_eq_true hp] at r1
  rw [if_pos hp] at hΨ
  have t1 : p.tdiv 4 = p / 4 := Int.tdiv_eq_ediv_of_nonneg hp.1
  have t2 : IntKind.i64.wrap (p / 4) = p / 4 := wrap_small (by omega) (by omega)
  have w1 : IntKind.i64.wrap (p / 4 + 1) = p / 4 + 1 := wrap_small (by omega) (by omega)
  have hmn : (if 99 < p / 4 + 1 then 99 else p / 4 + 1) = min (p / 4 + 1) 99 := by split <;> omega
  simp [wpk_skip, wpk_seq, k_cond, wpk_block, wpk_exit, wpk_ret, wpk_loop, k_ops, k_draw0, t_nil, t_cons, KT_eq, KD_eq, wpo_nil, k_cons, k_step, mt_some, mtk_some, KO_eq, KP_eq, K_normal, K_ret, K_exit, KB_normal, KB_ret, KB_exit, KL_normal, KL_ret, KL_exit, k_ret, k_normal, stepE, isCall, calleeE, opE, wantE, odE, odS, odL, odSL, fget, fput, initE, keepF, List.map_cons, List.map_nil, binE, intOp, strOp, shOp, unE, eqpE, eqnE, neqB, ressE, resE, packL, packE, flat1, fcells, fillE, setL, cellsOf_bind, cellsO_own, cellsO_ro, lenE_sl, lenE_nils, lenE_sl0, bound, rep, minE, maxE, List.getElem?_cons_zero, List.getElem?_cons_succ, get_lt, set_lt, get_len, get_len_add, set_len, set_len_add, List.append_assoc, List.cons_append, List.nil_append, -getElem?_pos, b27, s27_4, s27_3, s27_2, s27_1, r1, t1, t2, w1, hmn]
  refine WPc.go (t.rate j (min (p / 4 + 1) 99) p) ?_
  rintro _ h2 ⟨g2, rfl⟩
  cases hb : bestF j (min (p / 4 + 1) 99) p l with
  | none =>
    rw [hb] at hΨ
    simp [wpk_skip, wpk_seq, k_cond, wpk_block, wpk_exit, wpk_ret, wpk_loop, k_ops, k_draw0, t_nil, t_cons, KT_eq, KD_eq, wpo_nil, k_cons, k_step, mt_some, mtk_some, KO_eq, KP_eq, K_normal, K_ret, K_exit, KB_normal, KB_ret, KB_exit, KL_normal, KL_ret, KL_exit, k_ret, k_normal, stepE, isCall, calleeE, opE, wantE, odE, odS, odL, odSL, fget, fput, initE, keepF, List.map_cons, List.map_nil, binE, intOp, strOp, shOp, unE, eqpE, eqnE, neqB, ressE, resE, packL, packE, flat1, fcells, fillE, setL, cellsOf_bind, cellsO_own, cellsO_ro, lenE_sl, lenE_nils, lenE_sl0, bound, rep, minE, maxE, List.getElem?_cons_zero, List.getElem?_cons_succ, get_lt, set_lt, get_len, get_len_add, set_len, set_len_add, List.append_assoc, List.cons_append, List.nil_append, -getElem?_pos, ]
    exact hΨ _ _ ⟨g2, rfl⟩
  | some x =>
    rw [hb] at hΨ
    simp [wpk_skip, wpk_seq, k_cond, wpk_block, wpk_exit, wpk_ret, wpk_loop, k_ops, k_draw0, t_nil, t_cons, KT_eq, KD_eq, wpo_nil, k_cons, k_step, mt_some, mtk_some, KO_eq, KP_eq, K_normal, K_ret, K_exit, KB_normal, KB_ret, KB_exit, KL_normal, KL_ret, KL_exit, k_ret, k_normal, stepE, isCall, calleeE, opE, wantE, odE, odS, odL, odSL, fget, fput, initE, keepF, List.map_cons, List.map_nil, binE, intOp, strOp, shOp, unE, eqpE, eqnE, neqB, ressE, resE, packL, packE, flat1, fcells, fillE, setL, cellsOf_bind, cellsO_own, cellsO_ro, lenE_sl, lenE_nils, lenE_sl0, bound, rep, minE, maxE, List.getElem?_cons_zero, List.getElem?_cons_succ, get_lt, set_lt, get_len, get_len_add, set_len, set_len_add, List.append_assoc, List.cons_append, List.nil_append, -getElem?_pos, rateOf]
    exact hΨ _ _ ⟨g2, rfl⟩
end Go.Proofs.Ytcimcccnhbbncaa.Ev.CE
