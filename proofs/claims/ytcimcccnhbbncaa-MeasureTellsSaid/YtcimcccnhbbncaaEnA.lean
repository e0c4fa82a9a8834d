/- Rates as they are known, on the small machine: the program's table. -/
import Derived.Test.YtcimcccnhbbncaaCodeE
set_option linter.unusedSimpArgs false
set_option linter.unusedVariables false
namespace Go.Proofs.Ytcimcccnhbbncaa.Ev.CE
open Go

theorem within_ok (v n : Int) (hn : 1 ≤ n ∧ n ≤ 1000000000000) (h : LH) : callX C 14 [.s (.int .i64 v), .s (.int .i64 n)] h = some (.s (.int .i64 (v % n)), h) := by
  apply callX_wp
  refine WPc.intro (e := e14) rfl (by simp [e14]) ?_
  show WPk C b14 _ _ (KR [.tmp 4] _)
  have h1 : ¬ (n < 1) := by omega
  have h2 : ¬ (n = 0) := by omega
  have q1 := Int.tmod_lt_of_pos v (show 0 < n by omega)
  have q2 := Int.lt_tmod_of_pos v (show 0 < n by omega)
  have key : v.tmod n = if v.tmod n < 0 then v % n - n else v % n := by
    have e : v % n = (v.tmod n) % n := by
      have h := Int.mul_tdiv_add_tmod v n
      calc v % n = (n * v.tdiv n + v.tmod n) % n := by rw [h]
        _ = (v.tmod n) % n := by rw [Int.add_comm, Int.add_mul_emod_self_left]
    split
    · have : (v.tmod n) % n = v.tmod n + n := by
        rw [← Int.add_emod_right, Int.emod_eq_of_lt (by omega) (by omega)]
      omega
    · rw [e, Int.emod_eq_of_lt (by omega) (by omega)]
  have hlt := Int.emod_lt_of_pos v (show 0 < n by omega)
  have hge := Int.emod_nonneg v (show n ≠ 0 by omega)
  by_cases hk : v.tmod n < 0
  · rw [if_pos hk] at key
    have hw : IntKind.i64.wrap (v.tmod n + n) = v % n := by rw [wrap_small (by omega) (by omega)]; omega
    simp [wpk_skip, wpk_seq, k_cond, wpk_block, wpk_exit, wpk_ret, wpk_loop, k_ops, k_draw0, t_nil, t_cons, KT_eq, KD_eq, wpo_nil, k_cons, k_step, mt_some, mtk_some, KO_eq, KP_eq, K_normal, K_ret, K_exit, KB_normal, KB_ret, KB_exit, KL_normal, KL_ret, KL_exit, k_ret, k_normal, stepE, isCall, calleeE, opE, wantE, odE, odS, odL, odSL, fget, fput, initE, keepF, List.map_cons, List.map_nil, binE, intOp, strOp, shOp, unE, eqpE, eqnE, neqB, ressE, resE, packL, packE, flat1, fcells, fillE, setL, cellsOf_bind, cellsO_own, cellsO_ro, lenE_sl, lenE_nils, lenE_sl0, bound, rep, minE, maxE, List.getElem?_cons_zero, List.getElem?_cons_succ, get_lt, set_lt, get_len, get_len_add, set_len, set_len_add, List.append_assoc, List.cons_append, List.nil_append, -getElem?_pos, b14, s14_4, s14_3, s14_2, s14_1, h1, h2, hk, hw]
  · rw [if_neg hk] at key
    simp [wpk_skip, wpk_seq, k_cond, wpk_block, wpk_exit, wpk_ret, wpk_loop, k_ops, k_draw0, t_nil, t_cons, KT_eq, KD_eq, wpo_nil, k_cons, k_step, mt_some, mtk_some, KO_eq, KP_eq, K_normal, K_ret, K_exit, KB_normal, KB_ret, KB_exit, KL_normal, KL_ret, KL_exit, k_ret, k_normal, stepE, isCall, calleeE, opE, wantE, odE, odS, odL, odSL, fget, fput, initE, keepF, List.map_cons, List.map_nil, binE, intOp, strOp, shOp, unE, eqpE, eqnE, neqB, ressE, resE, packL, packE, flat1, fcells, fillE, setL, cellsOf_bind, cellsO_own, cellsO_ro, lenE_sl, lenE_nils, lenE_sl0, bound, rep, minE, maxE, List.getElem?_cons_zero, List.getElem?_cons_succ, get_lt, set_lt, get_len, get_len_add, set_len, set_len_add, List.append_assoc, List.cons_append, List.nil_append, -getElem?_pos, b14, s14_4, s14_3, s14_2, s14_1, h1, h2, hk]
    exact key


theorem money_ok (p : Int) (h : LH) : callX C 39 [.s (.int .i64 p)] h = some (.s (.bool (decide (-100000000000 ≤ p ∧ p ≤ 100000000000))), h) := by
  apply callX_wp
  refine WPc.intro (e := e39) rfl (by simp [e39]) ?_
  show WPk C b39 _ _ (KR [.tmp 2] _)
  by_cases h0 : p ≥ -100000000000
  · simp [wpk_skip, wpk_seq, k_cond, wpk_block, wpk_exit, wpk_ret, wpk_loop, k_ops, k_draw0, t_nil, t_cons, KT_eq, KD_eq, wpo_nil, k_cons, k_step, mt_some, mtk_some, KO_eq, KP_eq, K_normal, K_ret, K_exit, KB_normal, KB_ret, KB_exit, KL_normal, KL_ret, KL_exit, k_ret, k_normal, stepE, isCall, calleeE, opE, wantE, odE, odS, odL, odSL, fget, fput, initE, keepF, List.map_cons, List.map_nil, binE, intOp, strOp, shOp, unE, eqpE, eqnE, neqB, ressE, resE, packL, packE, flat1, fcells, fillE, setL, cellsOf_bind, cellsO_own, cellsO_ro, lenE_sl, lenE_nils, lenE_sl0, bound, rep, minE, maxE, List.getElem?_cons_zero, List.getElem?_cons_succ, get_lt, set_lt, get_len, get_len_add, set_len, set_len_add, List.append_assoc, List.cons_append, List.nil_append, -getElem?_pos, b39, s39_1, h0]
  · simp [wpk_skip, wpk_seq, k_cond, wpk_block, wpk_exit, wpk_ret, wpk_loop, k_ops, k_draw0, t_nil, t_cons, KT_eq, KD_eq, wpo_nil, k_cons, k_step, mt_some, mtk_some, KO_eq, KP_eq, K_normal, K_ret, K_exit, KB_normal, KB_ret, KB_exit, KL_normal, KL_ret, KL_exit, k_ret, k_normal, stepE, isCall, calleeE, opE, wantE, odE, odS, odL, odSL, fget, fput, initE, keepF, List.map_cons, List.map_nil, binE, intOp, strOp, shOp, unE, eqpE, eqnE, neqB, ressE, resE, packL, packE, flat1, fcells, fillE, setL, cellsOf_bind, cellsO_own, cellsO_ro, lenE_sl, lenE_nils, lenE_sl0, bound, rep, minE, maxE, List.getElem?_cons_zero, List.getElem?_cons_succ, get_lt, set_lt, get_len, get_len_add, set_len, set_len_add, List.append_assoc, List.cons_append, List.nil_append, -getElem?_pos, b39, s39_1, h0]

theorem right_ok (p : Int) (h : LH) : callX C 38 [.s (.int .i64 p)] h = some (.s (.bool (decide (0 ≤ p ∧ p ≤ 1000000))), h) := by
  apply callX_wp
  refine WPc.intro (e := e38) rfl (by simp [e38]) ?_
  show WPk C b38 _ _ (KR [.tmp 2] _)
  by_cases h0 : p ≥ 0
  · simp [wpk_skip, wpk_seq, k_cond, wpk_block, wpk_exit, wpk_ret, wpk_loop, k_ops, k_draw0, t_nil, t_cons, KT_eq, KD_eq, wpo_nil, k_cons, k_step, mt_some, mtk_some, KO_eq, KP_eq, K_normal, K_ret, K_exit, KB_normal, KB_ret, KB_exit, KL_normal, KL_ret, KL_exit, k_ret, k_normal, stepE, isCall, calleeE, opE, wantE, odE, odS, odL, odSL, fget, fput, initE, keepF, List.map_cons, List.map_nil, binE, intOp, strOp, shOp, unE, eqpE, eqnE, neqB, ressE, resE, packL, packE, flat1, fcells, fillE, setL, cellsOf_bind, cellsO_own, cellsO_ro, lenE_sl, lenE_nils, lenE_sl0, bound, rep, minE, maxE, List.getElem?_cons_zero, List.getElem?_cons_succ, get_lt, set_lt, get_len, get_len_add, set_len, set_len_add, List.append_assoc, List.cons_append, List.nil_append, -getElem?_pos, b38, s38_1, h0]
  · simp [wpk_skip, wpk_seq, k_cond, wpk_block, wpk_exit, wpk_ret, wpk_loop, k_ops, k_draw0, t_nil, t_cons, KT_eq, KD_eq, wpo_nil, k_cons, k_step, mt_some, mtk_some, KO_eq, KP_eq, K_normal, K_ret, K_exit, KB_normal, KB_ret, KB_exit, KL_normal, KL_ret, KL_exit, k_ret, k_normal, stepE, isCall, calleeE, opE, wantE, odE, odS, odL, odSL, fget, fput, initE, keepF, List.map_cons, List.map_nil, binE, intOp, strOp, shOp, unE, eqpE, eqnE, neqB, ressE, resE, packL, packE, flat1, fcells, fillE, setL, cellsOf_bind, cellsO_own, cellsO_ro, lenE_sl, lenE_nils, lenE_sl0, bound, rep, minE, maxE, List.getElem?_cons_zero, List.getElem?_cons_succ, get_lt, set_lt, get_len, get_len_add, set_len, set_len_add, List.append_assoc, List.cons_append, List.nil_append, -getElem?_pos, b38, s38_1, h0]

theorem rright_ok (p : Int) (h : LH) : callX C 46 [.s (.int .i64 p)] h = some (.s (.bool (decide (0 ≤ p ∧ p ≤ 1000000))), h) := by
  apply callX_wp
  refine WPc.intro (e := e46) rfl (by simp [e46]) ?_
  show WPk C b46 _ _ (KR [.tmp 2] _)
  by_cases h0 : p ≥ 0
  · simp [wpk_skip, wpk_seq, k_cond, wpk_block, wpk_exit, wpk_ret, wpk_loop, k_ops, k_draw0, t_nil, t_cons, KT_eq, KD_eq, wpo_nil, k_cons, k_step, mt_some, mtk_some, KO_eq, KP_eq, K_normal, K_ret, K_exit, KB_normal, KB_ret, KB_exit, KL_normal, KL_ret, KL_exit, k_ret, k_normal, stepE, isCall, calleeE, opE, wantE, odE, odS, odL, odSL, fget, fput, initE, keepF, List.map_cons, List.map_nil, binE, intOp, strOp, shOp, unE, eqpE, eqnE, neqB, ressE, resE, packL, packE, flat1, fcells, fillE, setL, cellsOf_bind, cellsO_own, cellsO_ro, lenE_sl, lenE_nils, lenE_sl0, bound, rep, minE, maxE, List.getElem?_cons_zero, List.getElem?_cons_succ, get_lt, set_lt, get_len, get_len_add, set_len, set_len_add, List.append_assoc, List.cons_append, List.nil_append, -getElem?_pos, b46, s46_1, h0]
  · simp [wpk_skip, wpk_seq, k_cond, wpk_block, wpk_exit, wpk_ret, wpk_loop, k_ops, k_draw0, t_nil, t_cons, KT_eq, KD_eq, wpo_nil, k_cons, k_step, mt_some, mtk_some, KO_eq, KP_eq, K_normal, K_ret, K_exit, KB_normal, KB_ret, KB_exit, KL_normal, KL_ret, KL_exit, k_ret, k_normal, stepE, isCall, calleeE, opE, wantE, odE, odS, odL, odSL, fget, fput, initE, keepF, List.map_cons, List.map_nil, binE, intOp, strOp, shOp, unE, eqpE, eqnE, neqB, ressE, resE, packL, packE, flat1, fcells, fillE, setL, cellsOf_bind, cellsO_own, cellsO_ro, lenE_sl, lenE_nils, lenE_sl0, bound, rep, minE, maxE, List.getElem?_cons_zero, List.getElem?_cons_succ, get_lt, set_lt, get_len, get_len_add, set_len, set_len_add, List.append_assoc, List.cons_append, List.nil_append, -getElem?_pos, b46, s46_1, h0]

theorem rmoney_ok (p : Int) (h : LH) : callX C 48 [.s (.int .i64 p)] h = some (.s (.bool (decide (-100000000000 ≤ p ∧ p ≤ 100000000000))), h) := by
  apply callX_wp
  refine WPc.intro (e := e48) rfl (by simp [e48]) ?_
  show WPk C b48 _ _ (KR [.tmp 2] _)
  by_cases h0 : p ≥ -100000000000
  · simp [wpk_skip, wpk_seq, k_cond, wpk_block, wpk_exit, wpk_ret, wpk_loop, k_ops, k_draw0, t_nil, t_cons, KT_eq, KD_eq, wpo_nil, k_cons, k_step, mt_some, mtk_some, KO_eq, KP_eq, K_normal, K_ret, K_exit, KB_normal, KB_ret, KB_exit, KL_normal, KL_ret, KL_exit, k_ret, k_normal, stepE, isCall, calleeE, opE, wantE, odE, odS, odL, odSL, fget, fput, initE, keepF, List.map_cons, List.map_nil, binE, intOp, strOp, shOp, unE, eqpE, eqnE, neqB, ressE, resE, packL, packE, flat1, fcells, fillE, setL, cellsOf_bind, cellsO_own, cellsO_ro, lenE_sl, lenE_nils, lenE_sl0, bound, rep, minE, maxE, List.getElem?_cons_zero, List.getElem?_cons_succ, get_lt, set_lt, get_len, get_len_add, set_len, set_len_add, List.append_assoc, List.cons_append, List.nil_append, -getElem?_pos, b48, s48_1, h0]
  · simp [wpk_skip, wpk_seq, k_cond, wpk_block, wpk_exit, wpk_ret, wpk_loop, k_ops, k_draw0, t_nil, t_cons, KT_eq, KD_eq, wpo_nil, k_cons, k_step, mt_some, mtk_some, KO_eq, KP_eq, K_normal, K_ret, K_exit, KB_normal, KB_ret, KB_exit, KL_normal, KL_ret, KL_exit, k_ret, k_normal, stepE, isCall, calleeE, opE, wantE, odE, odS, odL, odSL, fget, fput, initE, keepF, List.map_cons, List.map_nil, binE, intOp, strOp, shOp, unE, eqpE, eqnE, neqB, ressE, resE, packL, packE, flat1, fcells, fillE, setL, cellsOf_bind, cellsO_own, cellsO_ro, lenE_sl, lenE_nils, lenE_sl0, bound, rep, minE, maxE, List.getElem?_cons_zero, List.getElem?_cons_succ, get_lt, set_lt, get_len, get_len_add, set_len, set_len_add, List.append_assoc, List.cons_append, List.nil_append, -getElem?_pos, b48, s48_1, h0]

theorem year_ok (p : Int) (h : LH) : callX C 45 [.s (.int .i64 p)] h = some (.s (.bool (decide (0 ≤ p ∧ p ≤ 99))), h) := by
  apply callX_wp
  refine WPc.intro (e := e45) rfl (by simp [e45]) ?_
  show WPk C b45 _ _ (KR [.tmp 2] _)
  by_cases h0 : p ≥ 0
  · simp [wpk_skip, wpk_seq, k_cond, wpk_block, wpk_exit, wpk_ret, wpk_loop, k_ops, k_draw0, t_nil, t_cons, KT_eq, KD_eq, wpo_nil, k_cons, k_step, mt_some, mtk_some, KO_eq, KP_eq, K_normal, K_ret, K_exit, KB_normal, KB_ret, KB_exit, KL_normal, KL_ret, KL_exit, k_ret, k_normal, stepE, isCall, calleeE, opE, wantE, odE, odS, odL, odSL, fget, fput, initE, keepF, List.map_cons, List.map_nil, binE, intOp, strOp, shOp, unE, eqpE, eqnE, neqB, ressE, resE, packL, packE, flat1, fcells, fillE, setL, cellsOf_bind, cellsO_own, cellsO_ro, lenE_sl, lenE_nils, lenE_sl0, bound, rep, minE, maxE, List.getElem?_cons_zero, List.getElem?_cons_succ, get_lt, set_lt, get_len, get_len_add, set_len, set_len_add, List.append_assoc, List.cons_append, List.nil_append, -getElem?_pos, b45, s45_1, h0]
  · simp [wpk_skip, wpk_seq, k_cond, wpk_block, wpk_exit, wpk_ret, wpk_loop, k_ops, k_draw0, t_nil, t_cons, KT_eq, KD_eq, wpo_nil, k_cons, k_step, mt_some, mtk_some, KO_eq, KP_eq, K_normal, K_ret, K_exit, KB_normal, KB_ret, KB_exit, KL_normal, KL_ret, KL_exit, k_ret, k_normal, stepE, isCall, calleeE, opE, wantE, odE, odS, odL, odSL, fget, fput, initE, keepF, List.map_cons, List.map_nil, binE, intOp, strOp, shOp, unE, eqpE, eqnE, neqB, ressE, resE, packL, packE, flat1, fcells, fillE, setL, cellsOf_bind, cellsO_own, cellsO_ro, lenE_sl, lenE_nils, lenE_sl0, bound, rep, minE, maxE, List.getElem?_cons_zero, List.getElem?_cons_succ, get_lt, set_lt, get_len, get_len_add, set_len, set_len_add, List.append_assoc, List.cons_append, List.nil_append, -getElem?_pos, b45, s45_1, h0]


theorem period_ok (p : Int) (h : LH) : callX C 42 [.s (.int .i64 p)] h = some (.s (.bool (decide (0 ≤ p ∧ p ≤ 399))), h) := by
  apply callX_wp
  refine WPc.intro (e := e42) rfl (by simp [e42]) ?_
  show WPk C b42 _ _ (KR [.tmp 2] _)
  by_cases h0 : p ≥ 0
  · simp [wpk_skip, wpk_seq, k_cond, wpk_block, wpk_exit, wpk_ret, wpk_loop, k_ops, k_draw0, t_nil, t_cons, KT_eq, KD_eq, wpo_nil, k_cons, k_step, mt_some, mtk_some, KO_eq, KP_eq, K_normal, K_ret, K_exit, KB_normal, KB_ret, KB_exit, KL_normal, KL_ret, KL_exit, k_ret, k_normal, stepE, isCall, calleeE, opE, wantE, odE, odS, odL, odSL, fget, fput, initE, keepF, List.map_cons, List.map_nil, binE, intOp, strOp, shOp, unE, eqpE, eqnE, neqB, ressE, resE, packL, packE, flat1, fcells, fillE, setL, cellsOf_bind, cellsO_own, cellsO_ro, lenE_sl, lenE_nils, lenE_sl0, bound, rep, minE, maxE, List.getElem?_cons_zero, List.getElem?_cons_succ, get_lt, set_lt, get_len, get_len_add, set_len, set_len_add, List.append_assoc, List.cons_append, List.nil_append, -getElem?_pos, b42, s42_1, h0]
  · simp [wpk_skip, wpk_seq, k_cond, wpk_block, wpk_exit, wpk_ret, wpk_loop, k_ops, k_draw0, t_nil, t_cons, KT_eq, KD_eq, wpo_nil, k_cons, k_step, mt_some, mtk_some, KO_eq, KP_eq, K_normal, K_ret, K_exit, KB_normal, KB_ret, KB_exit, KL_normal, KL_ret, KL_exit, k_ret, k_normal, stepE, isCall, calleeE, opE, wantE, odE, odS, odL, odSL, fget, fput, initE, keepF, List.map_cons, List.map_nil, binE, intOp, strOp, shOp, unE, eqpE, eqnE, neqB, ressE, resE, packL, packE, flat1, fcells, fillE, setL, cellsOf_bind, cellsO_own, cellsO_ro, lenE_sl, lenE_nils, lenE_sl0, bound, rep, minE, maxE, List.getElem?_cons_zero, List.getElem?_cons_succ, get_lt, set_lt, get_len, get_len_add, set_len, set_len_add, List.append_assoc, List.cons_append, List.nil_append, -getElem?_pos, b42, s42_1, h0]
theorem rperiod_ok (p : Int) (h : LH) : callX C 47 [.s (.int .i64 p)] h = some (.s (.bool (decide (0 ≤ p ∧ p ≤ 399))), h) := by
  apply callX_wp
  refine WPc.intro (e := e47) rfl (by simp [e47]) ?_
  show WPk C b47 _ _ (KR [.tmp 2] _)
  by_cases h0 : p ≥ 0
  · simp [wpk_skip, wpk_seq, k_cond, wpk_block, wpk_exit, wpk_ret, wpk_loop, k_ops, k_draw0, t_nil, t_cons, KT_eq, KD_eq, wpo_nil, k_cons, k_step, mt_some, mtk_some, KO_eq, KP_eq, K_normal, K_ret, K_exit, KB_normal, KB_ret, KB_exit, KL_normal, KL_ret, KL_exit, k_ret, k_normal, stepE, isCall, calleeE, opE, wantE, odE, odS, odL, odSL, fget, fput, initE, keepF, List.map_cons, List.map_nil, binE, intOp, strOp, shOp, unE, eqpE, eqnE, neqB, ressE, resE, packL, packE, flat1, fcells, fillE, setL, cellsOf_bind, cellsO_own, cellsO_ro, lenE_sl, lenE_nils, lenE_sl0, bound, rep, minE, maxE, List.getElem?_cons_zero, List.getElem?_cons_succ, get_lt, set_lt, get_len, get_len_add, set_len, set_len_add, List.append_assoc, List.cons_append, List.nil_append, -getElem?_pos, b47, s47_1, h0]
  · simp [wpk_skip, wpk_seq, k_cond, wpk_block, wpk_exit, wpk_ret, wpk_loop, k_ops, k_draw0, t_nil, t_cons, KT_eq, KD_eq, wpo_nil, k_cons, k_step, mt_some, mtk_some, KO_eq, KP_eq, K_normal, K_ret, K_exit, KB_normal, KB_ret, KB_exit, KL_normal, KL_ret, KL_exit, k_ret, k_normal, stepE, isCall, calleeE, opE, wantE, odE, odS, odL, odSL, fget, fput, initE, keepF, List.map_cons, List.map_nil, binE, intOp, strOp, shOp, unE, eqpE, eqnE, neqB, ressE, resE, packL, packE, flat1, fcells, fillE, setL, cellsOf_bind, cellsO_own, cellsO_ro, lenE_sl, lenE_nils, lenE_sl0, bound, rep, minE, maxE, List.getElem?_cons_zero, List.getElem?_cons_succ, get_lt, set_lt, get_len, get_len_add, set_len, set_len_add, List.append_assoc, List.cons_append, List.nil_append, -getElem?_pos, b47, s47_1, h0]

structure Ro where
  j : ByteArray
  y : Int
  r : Int
  p : Int
def encR (x : Ro) : List SV := [.str x.j, .int .i64 x.y, .int .i64 x.r, .int .i64 x.p]
theorem encR_len (x : Ro) : (encR x).length = 4 := rfl
def sameR (j : ByteArray) (y p : Int) (x : Ro) : Bool := x.j.toList == j.toList && (x.y == y && x.p == p)

theorem same41_ok {h : LH} {a b d : Nat} {j : ByteArray} {y p : Int} (ha : h[a]? = some (.own 9 [.str j])) (hb : h[b]? = some (.own 3 [.int .i64 y])) (hd : h[d]? = some (.own 3 [.int .i64 p])) (x : Ro) :
    WPc C 41 [.agg (encR x), .s (.ptr a 0), .s (.ptr b 0), .s (.ptr d 0)] h fun u h' => Gr h h' ∧ u = .s (.bool (sameR j y p x)) := by
  refine WPc.post fun Ψ hΨ => ?_
  refine WPc.intro (e := e41) rfl (by simp [e41]) ?_
  show WPk C b41 _ _ (KR [.tmp 5] _)
  have la := lt_of_some ha
  have lb := lt_of_some hb
  have ld := lt_of_some hd
  have fin : ∀ c, c = sameR j y p x → Ψ (.s (.bool c)) (h ++ [LO.own 63 [.str x.j, .int .i64 x.y, .int .i64 x.r, .int .i64 x.p]]) := fun c hc => hΨ _ _ ⟨Gr.self _ _, by rw [hc]⟩
  unfold sameR at fin
  cases e1 : x.j.toList == j.toList with
  | false =>
    have := fin false (by rw [e1]; rfl)
    simp [wpk_skip, wpk_seq, k_cond, wpk_block, wpk_exit, wpk_ret, wpk_loop, k_ops, k_draw0, t_nil, t_cons, KT_eq, KD_eq, wpo_nil, k_cons, k_step, mt_some, mtk_some, KO_eq, KP_eq, K_normal, K_ret, K_exit, KB_normal, KB_ret, KB_exit, KL_normal, KL_ret, KL_exit, k_ret, k_normal, stepE, isCall, calleeE, opE, wantE, odE, odS, odL, odSL, fget, fput, initE, keepF, List.map_cons, List.map_nil, binE, intOp, strOp, shOp, unE, eqpE, eqnE, neqB, ressE, resE, packL, packE, flat1, fcells, fillE, setL, cellsOf_bind, cellsO_own, cellsO_ro, lenE_sl, lenE_nils, lenE_sl0, bound, rep, minE, maxE, List.getElem?_cons_zero, List.getElem?_cons_succ, get_lt, set_lt, get_len, get_len_add, set_len, set_len_add, List.append_assoc, List.cons_append, List.nil_append, -getElem?_pos, b41, s41_1, encR, ha, hb, hd, la, lb, ld, e1]
    exact this
  | true =>
    rw [e1] at fin
    cases e2 : x.y == y with
    | false =>
      have := fin false (by rw [e2]; rfl)
      simp [wpk_skip, wpk_seq, k_cond, wpk_block, wpk_exit, wpk_ret, wpk_loop, k_ops, k_draw0, t_nil, t_cons, KT_eq, KD_eq, wpo_nil, k_cons, k_step, mt_some, mtk_some, KO_eq, KP_eq, K_normal, K_ret, K_exit, KB_normal, KB_ret, KB_exit, KL_normal, KL_ret, KL_exit, k_ret, k_normal, stepE, isCall, calleeE, opE, wantE, odE, odS, odL, odSL, fget, fput, initE, keepF, List.map_cons, List.map_nil, binE, intOp, strOp, shOp, unE, eqpE, eqnE, neqB, ressE, resE, packL, packE, flat1, fcells, fillE, setL, cellsOf_bind, cellsO_own, cellsO_ro, lenE_sl, lenE_nils, lenE_sl0, bound, rep, minE, maxE, List.getElem?_cons_zero, List.getElem?_cons_succ, get_lt, set_lt, get_len, get_len_add, set_len, set_len_add, List.append_assoc, List.cons_append, List.nil_append, -getElem?_pos, b41, s41_1, encR, ha, hb, hd, la, lb, ld, e1, e2]
      exact this
    | true =>
      rw [e2] at fin
      have := fin (x.p == p) rfl
      simp [wpk_skip, wpk_seq, k_cond, wpk_block, wpk_exit, wpk_ret, wpk_loop, k_ops, k_draw0, t_nil, t_cons, KT_eq, KD_eq, wpo_nil, k_cons, k_step, mt_some, mtk_some, KO_eq, KP_eq, K_normal, K_ret, K_exit, KB_normal, KB_ret, KB_exit, KL_normal, KL_ret, KL_exit, k_ret, k_normal, stepE, isCall, calleeE, opE, wantE, odE, odS, odL, odSL, fget, fput, initE, keepF, List.map_cons, List.map_nil, binE, intOp, strOp, shOp, unE, eqpE, eqnE, neqB, ressE, resE, packL, packE, flat1, fcells, fillE, setL, cellsOf_bind, cellsO_own, cellsO_ro, lenE_sl, lenE_nils, lenE_sl0, bound, rep, minE, maxE, List.getElem?_cons_zero, List.getElem?_cons_succ, get_lt, set_lt, get_len, get_len_add, set_len, set_len_add, List.append_assoc, List.cons_append, List.nil_append, -getElem?_pos, b41, s41_1, encR, ha, hb, hd, la, lb, ld, e1, e2]
      exact this

/-- The first place of what is so; -1: none. -/
def findI {α : Type} (q : α → Bool) : Nat → List α → Int
  | _, [] => -1
  | k, x :: r => if q x then (k : Int) else findI q (k + 1) r
theorem findI_any {α : Type} (q : α → Bool) : ∀ (k : Nat) (l : List α), (findI q k l ≥ 0 ↔ l.any q = true)
  | k, [] => by simp [findI]
  | k, x :: r => by
    unfold findI
    cases hq : q x with
    | true => simp [hq]
    | false => simpa [hq] using findI_any q (k + 1) r

theorem find56_ok {h : LH} {v : SV} {l : List Ro} (r : Rd h 63 4 encR v l) (hl : l.length < 1000) {c a b d : Nat} (hc : h[c]? = some (.clo 41 [] [.s (.ptr a 0), .s (.ptr b 0), .s (.ptr d 0)])) {j : ByteArray} {y p : Int} (ha : h[a]? = some (.own 9 [.str j])) (hb : h[b]? = some (.own 3 [.int .i64 y])) (hd : h[d]? = some (.own 3 [.int .i64 p])) :
    WPc C 56 [.s v, .s (.cl c)] h fun u h' => Gr h h' ∧ u = .s (.int .i64 (findI (sameR j y p) 0 l)) := by
  refine WPc.post fun Ψ hΨ => ?_
  refine WPc.intro (e := e56) rfl (by simp [e56]) ?_
  show WPk C b56 _ _ (KR [.tmp 4] _)
  simp [wpk_skip, wpk_seq, k_cond, wpk_block, wpk_exit, wpk_ret, wpk_loop, k_ops, k_draw0, t_nil, t_cons, KT_eq, KD_eq, wpo_nil, k_cons, k_step, mt_some, mtk_some, KO_eq, KP_eq, K_normal, K_ret, K_exit, KB_normal, KB_ret, KB_exit, KL_normal, KL_ret, KL_exit, k_ret, k_normal, stepE, isCall, calleeE, opE, wantE, odE, odS, odL, odSL, fget, fput, initE, keepF, List.map_cons, List.map_nil, binE, intOp, strOp, shOp, unE, eqpE, eqnE, neqB, ressE, resE, packL, packE, flat1, fcells, fillE, setL, cellsOf_bind, cellsO_own, cellsO_ro, lenE_sl, lenE_nils, lenE_sl0, bound, rep, minE, maxE, List.getElem?_cons_zero, List.getElem?_cons_succ, get_lt, set_lt, get_len, get_len_add, set_len, set_len_add, List.append_assoc, List.cons_append, List.nil_append, -getElem?_pos, b56, s56_2, s56_1, r.len]
  refine WPl.inv2 (fun n fr h' => Gr h h' ∧ ∃ k, k ≤ l.length ∧ n = l.length - k ∧ findI (sameR j y p) k (l.drop k) = findI (sameR j y p) 0 l ∧ fr = [(0, some (.s v)), (1, some (.s (.cl c))), (7, some (.s (.int .i64 l.length))), (8, some (.s (.int .i64 k)))]) ?_ _ _ _ ⟨Gr.refl _, 0, Nat.zero_le _, rfl, rfl, rfl⟩
  rintro I hI n fr h' ⟨gr, k, hk, rfl, he, rfl⟩
  refine ⟨by simp [keepF, fget], ?_⟩
  by_cases hlt : k < l.length
  · obtain ⟨i, p', o, ob, vs, rfl, q2, q3, q4, q5, -⟩ := (r.gr gr).at encR_len hlt
    have w3 : IntKind.i64.wrap ((k : Int) + 1) = ((k + 1 : Nat) : Int) := wrap_small (by omega) (by omega)
    rw [List.drop_eq_getElem_cons hlt] at he
    simp only [findI] at he
    have hc' := gr.get hc
    simp [wpk_skip, wpk_seq, k_cond, wpk_block, wpk_exit, wpk_ret, wpk_loop, k_ops, k_draw0, t_nil, t_cons, KT_eq, KD_eq, wpo_nil, k_cons, k_step, mt_some, mtk_some, KO_eq, KP_eq, K_normal, K_ret, K_exit, KB_normal, KB_ret, KB_exit, KL_normal, KL_ret, KL_exit, k_ret, k_normal, stepE, isCall, calleeE, opE, wantE, odE, odS, odL, odSL, fget, fput, initE, keepF, List.map_cons, List.map_nil, binE, intOp, strOp, shOp, unE, eqpE, eqnE, neqB, ressE, resE, packL, packE, flat1, fcells, fillE, setL, cellsOf_bind, cellsO_own, cellsO_ro, lenE_sl, lenE_nils, lenE_sl0, bound, rep, minE, maxE, List.getElem?_cons_zero, List.getElem?_cons_succ, get_lt, set_lt, get_len, get_len_add, set_len, set_len_add, List.append_assoc, List.cons_append, List.nil_append, -getElem?_pos, l56_0_2, l56_0_1, l56_0, hlt, q2, q3, q4, q5, w3, hc']
    refine WPc.go (same41_ok (gr.get ha) (gr.get hb) (gr.get hd) l[k]) ?_
    rintro _ h1 ⟨g1, rfl⟩
    cases hq : sameR j y p l[k] with
    | true =>
      rw [hq, if_pos rfl] at he
      simp [wpk_skip, wpk_seq, k_cond, wpk_block, wpk_exit, wpk_ret, wpk_loop, k_ops, k_draw0, t_nil, t_cons, KT_eq, KD_eq, wpo_nil, k_cons, k_step, mt_some, mtk_some, KO_eq, KP_eq, K_normal, K_ret, K_exit, KB_normal, KB_ret, KB_exit, KL_normal, KL_ret, KL_exit, k_ret, k_normal, stepE, isCall, calleeE, opE, wantE, odE, odS, odL, odSL, fget, fput, initE, keepF, List.map_cons, List.map_nil, binE, intOp, strOp, shOp, unE, eqpE, eqnE, neqB, ressE, resE, packL, packE, flat1, fcells, fillE, setL, cellsOf_bind, cellsO_own, cellsO_ro, lenE_sl, lenE_nils, lenE_sl0, bound, rep, minE, maxE, List.getElem?_cons_zero, List.getElem?_cons_succ, get_lt, set_lt, get_len, get_len_add, set_len, set_len_add, List.append_assoc, List.cons_append, List.nil_append, -getElem?_pos, ]
      exact hΨ _ _ ⟨gr.trans g1, by rw [he]⟩
    | false =>
      rw [hq] at he
      simp only [Bool.false_eq_true, if_false] at he
      simp [wpk_skip, wpk_seq, k_cond, wpk_block, wpk_exit, wpk_ret, wpk_loop, k_ops, k_draw0, t_nil, t_cons, KT_eq, KD_eq, wpo_nil, k_cons, k_step, mt_some, mtk_some, KO_eq, KP_eq, K_normal, K_ret, K_exit, KB_normal, KB_ret, KB_exit, KL_normal, KL_ret, KL_exit, k_ret, k_normal, stepE, isCall, calleeE, opE, wantE, odE, odS, odL, odSL, fget, fput, initE, keepF, List.map_cons, List.map_nil, binE, intOp, strOp, shOp, unE, eqpE, eqnE, neqB, ressE, resE, packL, packE, flat1, fcells, fillE, setL, cellsOf_bind, cellsO_own, cellsO_ro, lenE_sl, lenE_nils, lenE_sl0, bound, rep, minE, maxE, List.getElem?_cons_zero, List.getElem?_cons_succ, get_lt, set_lt, get_len, get_len_add, set_len, set_len_add, List.append_assoc, List.cons_append, List.nil_append, -getElem?_pos, w3]
      exact ⟨_, by omega, hI _ _ _ ⟨gr.trans g1, k + 1, hlt, rfl, he, rfl⟩⟩
  · obtain rfl : k = l.length := by omega
    rw [List.drop_eq_nil_of_le (Nat.le_refl _)] at he
    simp only [findI] at he
    simp [wpk_skip, wpk_seq, k_cond, wpk_block, wpk_exit, wpk_ret, wpk_loop, k_ops, k_draw0, t_nil, t_cons, KT_eq, KD_eq, wpo_nil, k_cons, k_step, mt_some, mtk_some, KO_eq, KP_eq, K_normal, K_ret, K_exit, KB_normal, KB_ret, KB_exit, KL_normal, KL_ret, KL_exit, k_ret, k_normal, stepE, isCall, calleeE, opE, wantE, odE, odS, odL, odSL, fget, fput, initE, keepF, List.map_cons, List.map_nil, binE, intOp, strOp, shOp, unE, eqpE, eqnE, neqB, ressE, resE, packL, packE, flat1, fcells, fillE, setL, cellsOf_bind, cellsO_own, cellsO_ro, lenE_sl, lenE_nils, lenE_sl0, bound, rep, minE, maxE, List.getElem?_cons_zero, List.getElem?_cons_succ, get_lt, set_lt, get_len, get_len_add, set_len, set_len_add, List.append_assoc, List.cons_append, List.nil_append, -getElem?_pos, l56_0_2, l56_0_1, l56_0, hlt]
    exact hΨ _ _ ⟨gr, by rw [he]⟩
theorem contains43_ok {h : LH} {v : SV} {l : List Ro} (r : Rd h 63 4 encR v l) (hl : l.length < 1000) {c a b d : Nat} (hc : h[c]? = some (.clo 41 [] [.s (.ptr a 0), .s (.ptr b 0), .s (.ptr d 0)])) {j : ByteArray} {y p : Int} (ha : h[a]? = some (.own 9 [.str j])) (hb : h[b]? = some (.own 3 [.int .i64 y])) (hd : h[d]? = some (.own 3 [.int .i64 p])) :
    WPc C 43 [.s v, .s (.cl c)] h fun u h' => Gr h h' ∧ u = .s (.bool (l.any (sameR j y p))) := by
  refine WPc.post fun Ψ hΨ => ?_
  refine WPc.intro (e := e43) rfl (by simp [e43]) ?_
  show WPk C b43 _ _ (KR [.tmp 4] _)
  simp [wpk_skip, wpk_seq, k_cond, wpk_block, wpk_exit, wpk_ret, wpk_loop, k_ops, k_draw0, t_nil, t_cons, KT_eq, KD_eq, wpo_nil, k_cons, k_step, mt_some, mtk_some, KO_eq, KP_eq, K_normal, K_ret, K_exit, KB_normal, KB_ret, KB_exit, KL_normal, KL_ret, KL_exit, k_ret, k_normal, stepE, isCall, calleeE, opE, wantE, odE, odS, odL, odSL, fget, fput, initE, keepF, List.map_cons, List.map_nil, binE, intOp, strOp, shOp, unE, eqpE, eqnE, neqB, ressE, resE, packL, packE, flat1, fcells, fillE, setL, cellsOf_bind, cellsO_own, cellsO_ro, lenE_sl, lenE_nils, lenE_sl0, bound, rep, minE, maxE, List.getElem?_cons_zero, List.getElem?_cons_succ, get_lt, set_lt, get_len, get_len_add, set_len, set_len_add, List.append_assoc, List.cons_append, List.nil_append, -getElem?_pos, b43, s43_1]
  refine WPc.go (find56_ok r hl hc ha hb hd) ?_
  rintro _ h1 ⟨g1, rfl⟩
  have e := findI_any (sameR j y p) 0 l
  simp [wpk_skip, wpk_seq, k_cond, wpk_block, wpk_exit, wpk_ret, wpk_loop, k_ops, k_draw0, t_nil, t_cons, KT_eq, KD_eq, wpo_nil, k_cons, k_step, mt_some, mtk_some, KO_eq, KP_eq, K_normal, K_ret, K_exit, KB_normal, KB_ret, KB_exit, KL_normal, KL_ret, KL_exit, k_ret, k_normal, stepE, isCall, calleeE, opE, wantE, odE, odS, odL, odSL, fget, fput, initE, keepF, List.map_cons, List.map_nil, binE, intOp, strOp, shOp, unE, eqpE, eqnE, neqB, ressE, resE, packL, packE, flat1, fcells, fillE, setL, cellsOf_bind, cellsO_own, cellsO_ro, lenE_sl, lenE_nils, lenE_sl0, bound, rep, minE, maxE, List.getElem?_cons_zero, List.getElem?_cons_succ, get_lt, set_lt, get_len, get_len_add, set_len, set_len_add, List.append_assoc, List.cons_append, List.nil_append, -getElem?_pos, ]
  refine hΨ _ _ ⟨g1, ?_⟩
  cases hq : l.any (sameR j y p) with
  | true => rw [hq] at e; simp [e.2 rfl]
  | false =>
    rw [hq] at e
    have : ¬ findI (sameR j y p) 0 l ≥ 0 := fun x => by have := e.1 x; cases this
    simp [this]

/-- Is a list's object this one? -/
def isAt (v : SV) (k : Nat) : Prop := ∃ p o n, v = .sl k p o n
/-- What a table's change leaves as it was. -/
structure Ch (i : Nat) (v : SV) (h h' : LH) : Prop where
  le : h.length ≤ h'.length
  same : ∀ k, k < h.length → k ≠ i → ¬ isAt v k → h'[k]? = h[k]?
theorem gr_ch {h h' : LH} (g : Gr h h') (i : Nat) (v : SV) : Ch i v h h' := ⟨g.le, fun k hk _ _ => g.same k hk⟩
/-- A table of the program. -/
structure Tb (b : Nat) (h : LH) (i : Nat) (v : SV) (l : List Ro) : Prop where
  base : b ≤ i
  obj : h[i]? = some (.own 79 [v])
  rows : Ow b h 63 encR v l
  len : l.length ≤ 24
theorem Tb.gr {b : Nat} {h h' : LH} {i : Nat} {v : SV} {l : List Ro} (t : Tb b h i v l) (g : Gr h h') : Tb b h' i v l := ⟨t.base, g.get t.obj, t.rows.gr g, t.len⟩
theorem Ch.base {h0 h h' : LH} {i : Nat} {v : SV} {l : List Ro} (c : Ch i v h h') (t : Tb h0.length h i v l) (g : Gr h0 h) : Gr h0 h' := by
  refine ⟨Nat.le_trans g.le c.le, fun k hk => ?_⟩
  rw [c.same k (Nat.lt_of_lt_of_le hk g.le) (by have := t.base; omega) ?_, g.same k hk]
  rintro ⟨p, o, n, rfl⟩
  rcases t.rows with ⟨_, e⟩ | ⟨j, r1, r2, _⟩
  · cases e
  · cases r2; omega

theorem new_ok (h : LH) : callX C 17 [] h = some (.s (.ptr h.length 0), h ++ [.own 79 [.nils]]) := by
  apply callX_wp
  refine WPc.intro (e := e17) rfl (by simp [e17]) ?_
  show WPk C b17 _ _ (KR [.tmp 0] _)
  simp [wpk_skip, wpk_seq, k_cond, wpk_block, wpk_exit, wpk_ret, wpk_loop, k_ops, k_draw0, t_nil, t_cons, KT_eq, KD_eq, wpo_nil, k_cons, k_step, mt_some, mtk_some, KO_eq, KP_eq, K_normal, K_ret, K_exit, KB_normal, KB_ret, KB_exit, KL_normal, KL_ret, KL_exit, k_ret, k_normal, stepE, isCall, calleeE, opE, wantE, odE, odS, odL, odSL, fget, fput, initE, keepF, List.map_cons, List.map_nil, binE, intOp, strOp, shOp, unE, eqpE, eqnE, neqB, ressE, resE, packL, packE, flat1, fcells, fillE, setL, cellsOf_bind, cellsO_own, cellsO_ro, lenE_sl, lenE_nils, lenE_sl0, bound, rep, minE, maxE, List.getElem?_cons_zero, List.getElem?_cons_succ, get_lt, set_lt, get_len, get_len_add, set_len, set_len_add, List.append_assoc, List.cons_append, List.nil_append, -getElem?_pos, b17, s17_1]
theorem new_tb (h : LH) : Tb h.length (h ++ [.own 79 [.nils]]) h.length .nils [] := ⟨Nat.le_refl _, get_len, Ow.nil _ _, by simp⟩

def argOk (j : ByteArray) (y r p : Int) : Bool := !j.toList.isEmpty && (decide (0 ≤ y ∧ y ≤ 99) && (decide (0 ≤ r ∧ r ≤ 1000000) && decide (0 ≤ p ∧ p ≤ 399)))
def addR (l : List Ro) (j : ByteArray) (y r p : Int) : Int × List Ro :=
  if argOk j y r p = false then (1, l) else if l.any (sameR j y p) then (4, l) else if 24 ≤ l.length then (5, l) else (0, l ++ [⟨j, y, r, p⟩])

set_option maxRecDepth 20000 in
set_option maxHeartbeats 4000000 in
theorem add_ok2 {b : Nat} {h : LH} {i : Nat} {v : SV} {l : List Ro} (t : Tb b h i v l) (j : ByteArray) (y r p : Int) :
    WPc C 18 [.s (.ptr i 0), .s (.str j), .s (.int .i64 y), .s (.int .i64 r), .s (.int .i64 p)] h fun u h' => Ch i v h h' ∧ u = .s (.int .i64 (addR l j y r p).1) ∧ ∃ v', Tb b h' i v' (addR l j y r p).2 ∧ (v' = v ∨ ∀ k, isAt v' k → h.length ≤ k) := by
  refine WPc.post fun Ψ hΨ => ?_
  refine WPc.intro (e := e18) rfl (by simp [e18]) ?_
  show WPk C b18 _ _ (KR [.tmp 10] _)
  have hi := lt_of_some t.obj
  have ti := t.obj
  have hb : b ≤ h.length := by have := t.base; omega
  unfold addR at hΨ
  have hle : l.length ≤ 24 := t.len
  obtain ⟨X, hX⟩ : ∃ X, X = [LO.own 9 [.str j], LO.own 3 [.int .i64 y], LO.own 3 [.int .i64 p], LO.clo 41 [] [.s (.ptr h.length 0), .s (.ptr (h.length + 1) 0), .s (.ptr (h.length + 2) 0)]] := ⟨_, rfl⟩
  have tX := t.gr (Gr.self h X)
  have bad : argOk j y r p = false → Ψ (.s (.int .i64 1)) (h ++ X) := fun e => hΨ _ _ (by rw [if_pos e]; exact ⟨gr_ch (Gr.self h X) i v, rfl, v, tX, .inl rfl⟩)
  unfold argOk at bad
  rw [hX] at bad
  cases e1 : j.toList.isEmpty with
  | true =>
    have := bad (by rw [e1]; rfl)
    have e0 : j.toList = [] := by simpa using e1
    simp [wpk_skip, wpk_seq, k_cond, wpk_block, wpk_exit, wpk_ret, wpk_loop, k_ops, k_draw0, t_nil, t_cons, KT_eq, KD_eq, wpo_nil, k_cons, k_step, mt_some, mtk_some, KO_eq, KP_eq, K_normal, K_ret, K_exit, KB_normal, KB_ret, KB_exit, KL_normal, KL_ret, KL_exit, k_ret, k_normal, stepE, isCall, calleeE, opE, wantE, odE, odS, odL, odSL, fget, fput, initE, keepF, List.map_cons, List.map_nil, binE, intOp, strOp, shOp, unE, eqpE, eqnE, neqB, ressE, resE, packL, packE, flat1, fcells, fillE, setL, cellsOf_bind, cellsO_own, cellsO_ro, lenE_sl, lenE_nils, lenE_sl0, bound, rep, minE, maxE, List.getElem?_cons_zero, List.getElem?_cons_succ, get_lt, set_lt, get_len, get_len_add, set_len, set_len_add, List.append_assoc, List.cons_append, List.nil_append, -getElem?_pos, b18, s18_1, s18_2, e0, e1, e0]
    exact this
  | false =>
  have e0 : ¬ j.toList = [] := by simpa using e1
  by_cases e2 : 0 ≤ y ∧ y ≤ 99
  case neg =>
    have := bad (by rw [decide_eq_false e2]; simp)
    by_cases e2' : y < 0
    · simp [wpk_skip, wpk_seq, k_cond, wpk_block, wpk_exit, wpk_ret, wpk_loop, k_ops, k_draw0, t_nil, t_cons, KT_eq, KD_eq, wpo_nil, k_cons, k_step, mt_some, mtk_some, KO_eq, KP_eq, K_normal, K_ret, K_exit, KB_normal, KB_ret, KB_exit, KL_normal, KL_ret, KL_exit, k_ret, k_normal, stepE, isCall, calleeE, opE, wantE, odE, odS, odL, odSL, fget, fput, initE, keepF, List.map_cons, List.map_nil, binE, intOp, strOp, shOp, unE, eqpE, eqnE, neqB, ressE, resE, packL, packE, flat1, fcells, fillE, setL, cellsOf_bind, cellsO_own, cellsO_ro, lenE_sl, lenE_nils, lenE_sl0, bound, rep, minE, maxE, List.getElem?_cons_zero, List.getElem?_cons_succ, get_lt, set_lt, get_len, get_len_add, set_len, set_len_add, List.append_assoc, List.cons_append, List.nil_append, -getElem?_pos, b18, s18_1, s18_2, e0, e1, e2']
      exact this
    · have e3' : 99 < y := by omega
      simp [wpk_skip, wpk_seq, k_cond, wpk_block, wpk_exit, wpk_ret, wpk_loop, k_ops, k_draw0, t_nil, t_cons, KT_eq, KD_eq, wpo_nil, k_cons, k_step, mt_some, mtk_some, KO_eq, KP_eq, K_normal, K_ret, K_exit, KB_normal, KB_ret, KB_exit, KL_normal, KL_ret, KL_exit, k_ret, k_normal, stepE, isCall, calleeE, opE, wantE, odE, odS, odL, odSL, fget, fput, initE, keepF, List.map_cons, List.map_nil, binE, intOp, strOp, shOp, unE, eqpE, eqnE, neqB, ressE, resE, packL, packE, flat1, fcells, fillE, setL, cellsOf_bind, cellsO_own, cellsO_ro, lenE_sl, lenE_nils, lenE_sl0, bound, rep, minE, maxE, List.getElem?_cons_zero, List.getElem?_cons_succ, get_lt, set_lt, get_len, get_len_add, set_len, set_len_add, List.append_assoc, List.cons_append, List.nil_append, -getElem?_pos, b18, s18_1, s18_2, e0, e1, e2', e3']
      exact this
  have f2 : ¬ y < 0 := by omega
  have f3 : ¬ 99 < y := by omega
  by_cases e3 : 0 ≤ r ∧ r ≤ 1000000
  case neg =>
    have := bad (by rw [decide_eq_false e3]; simp)
    have e4 := fun h => right_ok r h
    rw [decide_eq_false e3] at e4
    simp [wpk_skip, wpk_seq, k_cond, wpk_block, wpk_exit, wpk_ret, wpk_loop, k_ops, k_draw0, t_nil, t_cons, KT_eq, KD_eq, wpo_nil, k_cons, k_step, mt_some, mtk_some, KO_eq, KP_eq, K_normal, K_ret, K_exit, KB_normal, KB_ret, KB_exit, KL_normal, KL_ret, KL_exit, k_ret, k_normal, stepE, isCall, calleeE, opE, wantE, odE, odS, odL, odSL, fget, fput, initE, keepF, List.map_cons, List.map_nil, binE, intOp, strOp, shOp, unE, eqpE, eqnE, neqB, ressE, resE, packL, packE, flat1, fcells, fillE, setL, cellsOf_bind, cellsO_own, cellsO_ro, lenE_sl, lenE_nils, lenE_sl0, bound, rep, minE, maxE, List.getElem?_cons_zero, List.getElem?_cons_succ, get_lt, set_lt, get_len, get_len_add, set_len, set_len_add, List.append_assoc, List.cons_append, List.nil_append, -getElem?_pos, b18, s18_1, s18_2, e0, e1, f2, f3, e4]
    exact this
  have e4 := fun h => right_ok r h
  rw [decide_eq_true e3] at e4
  by_cases e5 : 0 ≤ p ∧ p ≤ 399
  case neg =>
    have := bad (by rw [decide_eq_false e5]; simp)
    have e6 := fun h => period_ok p h
    rw [decide_eq_false e5] at e6
    simp [wpk_skip, wpk_seq, k_cond, wpk_block, wpk_exit, wpk_ret, wpk_loop, k_ops, k_draw0, t_nil, t_cons, KT_eq, KD_eq, wpo_nil, k_cons, k_step, mt_some, mtk_some, KO_eq, KP_eq, K_normal, K_ret, K_exit, KB_normal, KB_ret, KB_exit, KL_normal, KL_ret, KL_exit, k_ret, k_normal, stepE, isCall, calleeE, opE, wantE, odE, odS, odL, odSL, fget, fput, initE, keepF, List.map_cons, List.map_nil, binE, intOp, strOp, shOp, unE, eqpE, eqnE, neqB, ressE, resE, packL, packE, flat1, fcells, fillE, setL, cellsOf_bind, cellsO_own, cellsO_ro, lenE_sl, lenE_nils, lenE_sl0, bound, rep, minE, maxE, List.getElem?_cons_zero, List.getElem?_cons_succ, get_lt, set_lt, get_len, get_len_add, set_len, set_len_add, List.append_assoc, List.cons_append, List.nil_append, -getElem?_pos, b18, s18_1, s18_2, e0, e1, f2, f3, e4, e6]
    exact this
  have e6 := fun h => period_ok p h
  rw [decide_eq_true e5] at e6
  have hok : argOk j y r p = true := by unfold argOk; rw [e1, decide_eq_true e2, decide_eq_true e3, decide_eq_true e5]; rfl
  rw [hok] at hΨ
  simp only [Bool.true_eq_false, if_false] at hΨ
  simp [wpk_skip, wpk_seq, k_cond, wpk_block, wpk_exit, wpk_ret, wpk_loop, k_ops, k_draw0, t_nil, t_cons, KT_eq, KD_eq, wpo_nil, k_cons, k_step, mt_some, mtk_some, KO_eq, KP_eq, K_normal, K_ret, K_exit, KB_normal, KB_ret, KB_exit, KL_normal, KL_ret, KL_exit, k_ret, k_normal, stepE, isCall, calleeE, opE, wantE, odE, odS, odL, odSL, fget, fput, initE, keepF, List.map_cons, List.map_nil, binE, intOp, strOp, shOp, unE, eqpE, eqnE, neqB, ressE, resE, packL, packE, flat1, fcells, fillE, setL, cellsOf_bind, cellsO_own, cellsO_ro, lenE_sl, lenE_nils, lenE_sl0, bound, rep, minE, maxE, List.getElem?_cons_zero, List.getElem?_cons_succ, get_lt, set_lt, get_len, get_len_add, set_len, set_len_add, List.append_assoc, List.cons_append, List.nil_append, -getElem?_pos, b18, s18_1, s18_2, e0, e1, f2, f3, e4, e6, ti, hi]
  rw [hX] at tX
  refine WPc.go (contains43_ok (tX.rows.rd encR_len) (by omega) (c := h.length + 3) (a := h.length) (b := h.length + 1) (d := h.length + 2) (j := j) (y := y) (p := p) (by rw [get_len_add]; rfl) (by rw [get_len]) (by rw [get_len_add]; rfl) (by rw [get_len_add]; rfl)) ?_
  rintro _ h1 ⟨g1, rfl⟩
  have t1 := tX.gr g1
  have g0 := (Gr.self h _).trans g1
  cases hq : l.any (sameR j y p) with
  | true =>
    rw [hq] at hΨ
    simp only [if_true] at hΨ
    simp [wpk_skip, wpk_seq, k_cond, wpk_block, wpk_exit, wpk_ret, wpk_loop, k_ops, k_draw0, t_nil, t_cons, KT_eq, KD_eq, wpo_nil, k_cons, k_step, mt_some, mtk_some, KO_eq, KP_eq, K_normal, K_ret, K_exit, KB_normal, KB_ret, KB_exit, KL_normal, KL_ret, KL_exit, k_ret, k_normal, stepE, isCall, calleeE, opE, wantE, odE, odS, odL, odSL, fget, fput, initE, keepF, List.map_cons, List.map_nil, binE, intOp, strOp, shOp, unE, eqpE, eqnE, neqB, ressE, resE, packL, packE, flat1, fcells, fillE, setL, cellsOf_bind, cellsO_own, cellsO_ro, lenE_sl, lenE_nils, lenE_sl0, bound, rep, minE, maxE, List.getElem?_cons_zero, List.getElem?_cons_succ, get_lt, set_lt, get_len, get_len_add, set_len, set_len_add, List.append_assoc, List.cons_append, List.nil_append, -getElem?_pos, ]
    exact hΨ _ _ ⟨gr_ch g0 i v, rfl, v, t1, .inl rfl⟩
  | false =>
    rw [hq] at hΨ
    simp only [Bool.false_eq_true, if_false] at hΨ
    have ti1 := t1.obj
    have hi1 := lt_of_some ti1
    by_cases hfull : 24 ≤ l.length
    · rw [if_pos hfull] at hΨ
      have hfull' : (24 : Int) ≤ (l.length : Int) := by omega
      simp [wpk_skip, wpk_seq, k_cond, wpk_block, wpk_exit, wpk_ret, wpk_loop, k_ops, k_draw0, t_nil, t_cons, KT_eq, KD_eq, wpo_nil, k_cons, k_step, mt_some, mtk_some, KO_eq, KP_eq, K_normal, K_ret, K_exit, KB_normal, KB_ret, KB_exit, KL_normal, KL_ret, KL_exit, k_ret, k_normal, stepE, isCall, calleeE, opE, wantE, odE, odS, odL, odSL, fget, fput, initE, keepF, List.map_cons, List.map_nil, binE, intOp, strOp, shOp, unE, eqpE, eqnE, neqB, ressE, resE, packL, packE, flat1, fcells, fillE, setL, cellsOf_bind, cellsO_own, cellsO_ro, lenE_sl, lenE_nils, lenE_sl0, bound, rep, minE, maxE, List.getElem?_cons_zero, List.getElem?_cons_succ, get_lt, set_lt, get_len, get_len_add, set_len, set_len_add, List.append_assoc, List.cons_append, List.nil_append, -getElem?_pos, ti1, t1.rows.len, hfull']
      exact hΨ _ _ ⟨gr_ch g0 i v, rfl, v, t1, .inl rfl⟩
    · rw [if_neg hfull] at hΨ
      have hfull' : ¬ (24 : Int) ≤ (l.length : Int) := by omega
      have a1 : h1[h.length]? = some (.own 9 [.str j]) := g1.get get_len
      have a2 : h1[h.length + 1]? = some (.own 3 [.int .i64 y]) := g1.get (by rw [get_len_add]; rfl)
      have a3 : h1[h.length + 2]? = some (.own 3 [.int .i64 p]) := g1.get (by rw [get_len_add]; rfl)
      have hA := t1.rows.app1 (y := 40) encR_len (by omega)
      have k1 : ∀ q, i < (kill v (h1 ++ q)).length := fun q => by rw [kill_len, List.length_append]; omega
      have k3 : ∀ q, (kill v (h1 ++ q))[i]? = some (.own 79 [v]) := by
        intro q
        rcases t1.rows with ⟨_, rfl⟩ | ⟨j', r1, rfl, r3⟩
        · show (h1 ++ q)[i]? = _
          rw [get_lt hi1]; exact ti1
        · show ((h1 ++ q).set j' .dead)[i]? = _
          have hne : j' ≠ i := fun e => by
            subst e
            rw [ti1] at r3
            simp only [Option.some.injEq, LO.own.injEq] at r3
            exact absurd r3.1 (by decide)
          rw [get_ne hne, get_lt hi1]; exact ti1
      simp [wpk_skip, wpk_seq, k_cond, wpk_block, wpk_exit, wpk_ret, wpk_loop, k_ops, k_draw0, t_nil, t_cons, KT_eq, KD_eq, wpo_nil, k_cons, k_step, mt_some, mtk_some, KO_eq, KP_eq, K_normal, K_ret, K_exit, KB_normal, KB_ret, KB_exit, KL_normal, KL_ret, KL_exit, k_ret, k_normal, stepE, isCall, calleeE, opE, wantE, odE, odS, odL, odSL, fget, fput, initE, keepF, List.map_cons, List.map_nil, binE, intOp, strOp, shOp, unE, eqpE, eqnE, neqB, ressE, resE, packL, packE, flat1, fcells, fillE, setL, cellsOf_bind, cellsO_own, cellsO_ro, lenE_sl, lenE_nils, lenE_sl0, bound, rep, minE, maxE, List.getElem?_cons_zero, List.getElem?_cons_succ, get_lt, set_lt, get_len, get_len_add, set_len, set_len_add, List.append_assoc, List.cons_append, List.nil_append, -getElem?_pos, ti1, t1.rows.len, hfull', s18_3]
      simp [wpk_skip, wpk_seq, k_cond, wpk_block, wpk_exit, wpk_ret, wpk_loop, k_ops, k_draw0, t_nil, t_cons, KT_eq, KD_eq, wpo_nil, k_cons, k_step, mt_some, mtk_some, KO_eq, KP_eq, K_normal, K_ret, K_exit, KB_normal, KB_ret, KB_exit, KL_normal, KL_ret, KL_exit, k_ret, k_normal, stepE, isCall, calleeE, opE, wantE, odE, odS, odL, odSL, fget, fput, initE, keepF, List.map_cons, List.map_nil, binE, intOp, strOp, shOp, unE, eqpE, eqnE, neqB, ressE, resE, packL, packE, flat1, fcells, fillE, setL, cellsOf_bind, cellsO_own, cellsO_ro, lenE_sl, lenE_nils, lenE_sl0, bound, rep, minE, maxE, List.getElem?_cons_zero, List.getElem?_cons_succ, get_lt, set_lt, get_len, get_len_add, set_len, set_len_add, List.append_assoc, List.cons_append, List.nil_append, -getElem?_pos, ti1, hi1, a1, a2, a3, elems, hA, k1, k3, s18_4]
      rw [← set_lt (k1 _)]
      refine hΨ _ _ ⟨⟨?_, fun k hk hki hkv => ?_⟩, rfl, _, ⟨t.base, get_self (by rw [List.length_append, kill_len, List.length_append]; omega), ?_, by simp; omega⟩, .inr ?_⟩
      · rw [List.length_set, List.length_append, kill_len, List.length_append]; have := g0.le; omega
      · rw [get_ne (Ne.symm hki), get_lt (by rw [kill_len, List.length_append]; have := g0.le; omega)]
        have hk1 : k < h1.length := by have := g0.le; omega
        rcases t1.rows with ⟨_, rfl⟩ | ⟨j', r1, rfl, r3⟩
        · show (h1 ++ _)[k]? = _
          rw [get_lt hk1]; exact g0.same k hk
        · show ((h1 ++ _).set j' .dead)[k]? = _
          rw [get_ne (fun e => hkv ⟨_, _, _, by rw [e]⟩), get_lt hk1]; exact g0.same k hk
      · have hb1 : b ≤ h1.length := by have := g0.le; omega
        have := Ow.next (t := 63) (enc := encR) (v := v) (h := h1 ++ [LO.own 63 [.str j, .int .i64 y, .int .i64 r, .int .i64 p]]) (l := l) (new := [⟨j, y, r, p⟩]) (n := l.length + 1) (b := b) (by simp; omega) rfl
        refine Ow.set2 (by simpa [encR] using this) (fun p' o n e => ?_) _
        simp only [SV.sl.injEq] at e
        omega
      · rintro k ⟨p', o, n, e⟩
        simp only [SV.sl.injEq] at e
        have := g0.le
        omega
theorem add_ok {b : Nat} {h : LH} {i : Nat} {v : SV} {l : List Ro} (t : Tb b h i v l) (j : ByteArray) (y r p : Int) :
    WPc C 18 [.s (.ptr i 0), .s (.str j), .s (.int .i64 y), .s (.int .i64 r), .s (.int .i64 p)] h fun u h' => Ch i v h h' ∧ u = .s (.int .i64 (addR l j y r p).1) ∧ ∃ v', Tb b h' i v' (addR l j y r p).2 := by
  obtain ⟨u, h', e, c, e2, v', t', _⟩ := add_ok2 t j y r p
  exact ⟨u, h', e, c, e2, v', t'⟩

/-- A list that is empty. -/
theorem any_ext {α : Type} {q q' : α → Bool} : ∀ {l : List α}, (∀ x ∈ l, q x = q' x) → l.any q = l.any q'
  | [], _ => rfl
  | x :: r, h => by rw [List.any_cons, List.any_cons, h x List.mem_cons_self, any_ext fun y hy => h y (List.mem_cons_of_mem _ hy)]

/-- The better of two rows. -/
def stepB (j : ByteArray) (y p : Int) (s : Option Ro) (x : Ro) : Option Ro :=
  if (x.j.toList == j.toList) = false ∨ x.y > y ∨ x.p > p then s
  else match s with
    | none => some x
    | some b => if x.y > b.y ∨ x.y = b.y ∧ x.p > b.p then some x else some b
def bestF (j : ByteArray) (y p : Int) (l : List Ro) : Option Ro := l.foldl (stepB j y p) none
def rateOf (s : Option Ro) : Int := match s with
  | none => 0
  | some x => x.r
def rowOf (s : Option Ro) : Ro := s.getD ⟨⟨#[]⟩, 0, 0, 0⟩

set_option maxRecDepth 20000 in
set_option maxHeartbeats 4000000 in
theorem rate_ok {h : LH} {i : Nat} {v : SV} {l : List Ro} (hi : h[i]? = some (.own 79 [v])) (r : Rd h 63 4 encR v l) (hl : l.length < 1000) (j : ByteArray) (y p : Int) :
    WPc C 33 [.s (.ptr i 0), .s (.str j), .s (.int .i64 y), .s (.int .i64 p)] h fun u h' => Gr h h' ∧ u = .tup [.s (.int .i64 (rateOf (bestF j y p l))), .s (.bool (bestF j y p l).isSome)] := by
  refine WPc.post fun Ψ hΨ => ?_
  refine WPc.intro (e := e33) rfl (by simp [e33]) ?_
  show WPk C b33 _ _ (KR [.tmp 8, .tmp 9] _)
  have li := lt_of_some hi
  simp [wpk_skip, wpk_seq, k_cond, wpk_block, wpk_exit, wpk_ret, wpk_loop, k_ops, k_draw0, t_nil, t_cons, KT_eq, KD_eq, wpo_nil, k_cons, k_step, mt_some, mtk_some, KO_eq, KP_eq, K_normal, K_ret, K_exit, KB_normal, KB_ret, KB_exit, KL_normal, KL_ret, KL_exit, k_ret, k_normal, stepE, isCall, calleeE, opE, wantE, odE, odS, odL, odSL, fget, fput, initE, keepF, List.map_cons, List.map_nil, binE, intOp, strOp, shOp, unE, eqpE, eqnE, neqB, ressE, resE, packL, packE, flat1, fcells, fillE, setL, cellsOf_bind, cellsO_own, cellsO_ro, lenE_sl, lenE_nils, lenE_sl0, bound, rep, minE, maxE, List.getElem?_cons_zero, List.getElem?_cons_succ, get_lt, set_lt, get_len, get_len_add, set_len, set_len_add, List.append_assoc, List.cons_append, List.nil_append, -getElem?_pos, b33, s33_3, s33_2, s33_1, hi, li, r.len]
  refine WPl.inv2 (fun n fr h' => Gr h h' ∧ ∃ (k : Nat) (s : Option Ro), k ≤ l.length ∧ n = l.length - k ∧ h'[h.length]? = some (.own 63 (encR (rowOf s))) ∧ (l.drop k).foldl (stepB j y p) s = bestF j y p l ∧
    fr = [(1, some (.s (.str j))), (2, some (.s (.int .i64 y))), (3, some (.s (.int .i64 p))), (10, some (.s (.ptr h.length 0))), (11, some (.s (.bool s.isSome))), (18, some (.s v)), (19, some (.s (.int .i64 l.length))), (20, some (.s (.int .i64 k)))]) ?_ _ _ _ ⟨Gr.self _ _, 0, none, Nat.zero_le _, rfl, get_len, rfl, rfl⟩
  rintro I hI n fr h' ⟨gr, k, s, hk, rfl, hx, he, rfl⟩
  refine ⟨by simp [keepF, fget], ?_⟩
  by_cases hlt : k < l.length
  · obtain ⟨j0, p0, q0, ob0, vs0, rfl, c1, c2, c3, c4, -⟩ := (r.gr gr).at encR_len hlt
    have c5 := lt_of_some c1
    have lx := lt_of_some hx
    rw [List.drop_eq_getElem_cons hlt] at he
    rw [List.foldl_cons] at he
    have w3 : IntKind.i64.wrap ((k : Int) + 1) = ((k + 1 : Nat) : Int) := wrap_small (by omega) (by omega)
    simp only [encR] at c4 hx
    generalize l[k] = x at *
    have skip : stepB j y p s x = s → ∃ m, m < l.length - k ∧ I m [(1, some (.s (.str j))), (2, some (.s (.int .i64 y))), (3, some (.s (.int .i64 p))), (10, some (.s (.ptr h.length 0))), (11, some (.s (.bool s.isSome))), (18, some (.s (.sl j0 p0 q0 l.length))), (19, some (.s (.int .i64 l.length))), (20, some (.s (.int .i64 ((k : Int) + 1))))] (h' ++ [LO.own 63 [.str x.j, .int .i64 x.y, .int .i64 x.r, .int .i64 x.p]]) := by
      intro e
      rw [e] at he
      exact ⟨_, by omega, hI _ _ _ ⟨gr.app _, k + 1, s, hlt, rfl, by rw [get_lt lx]; exact hx, he, rfl⟩⟩
    have take : stepB j y p s x = some x → ∃ m, m < l.length - k ∧ I m [(1, some (.s (.str j))), (2, some (.s (.int .i64 y))), (3, some (.s (.int .i64 p))), (10, some (.s (.ptr h.length 0))), (11, some (.s (.bool true))), (18, some (.s (.sl j0 p0 q0 l.length))), (19, some (.s (.int .i64 l.length))), (20, some (.s (.int .i64 ((k : Int) + 1))))] (h'.set h.length (.own 63 [.str x.j, .int .i64 x.y, .int .i64 x.r, .int .i64 x.p]) ++ [LO.own 63 [.str x.j, .int .i64 x.y, .int .i64 x.r, .int .i64 x.p]]) := by
      intro e
      rw [e] at he
      exact ⟨_, by omega, hI _ _ _ ⟨(gr.set _ (Nat.le_refl _)).app _, k + 1, some x, hlt, rfl, by rw [get_lt (by rw [List.length_set]; exact lx), get_self lx]; rfl, he, rfl⟩⟩
    unfold stepB at skip take
    cases e1 : x.j.toList == j.toList with
    | false =>
      have := skip (by rw [if_pos (.inl e1)])
      have e1' : (x.j.toList != j.toList) = true := by simpa using e1
      have e1n : ¬ x.j.toList = j.toList := by simpa using e1
      simp [wpk_skip, wpk_seq, k_cond, wpk_block, wpk_exit, wpk_ret, wpk_loop, k_ops, k_draw0, t_nil, t_cons, KT_eq, KD_eq, wpo_nil, k_cons, k_step, mt_some, mtk_some, KO_eq, KP_eq, K_normal, K_ret, K_exit, KB_normal, KB_ret, KB_exit, KL_normal, KL_ret, KL_exit, k_ret, k_normal, stepE, isCall, calleeE, opE, wantE, odE, odS, odL, odSL, fget, fput, initE, keepF, List.map_cons, List.map_nil, binE, intOp, strOp, shOp, unE, eqpE, eqnE, neqB, ressE, resE, packL, packE, flat1, fcells, fillE, setL, cellsOf_bind, cellsO_own, cellsO_ro, lenE_sl, lenE_nils, lenE_sl0, bound, rep, minE, maxE, List.getElem?_cons_zero, List.getElem?_cons_succ, get_lt, set_lt, get_len, get_len_add, set_len, set_len_add, List.append_assoc, List.cons_append, List.nil_append, -getElem?_pos, l33_0_2, l33_0_1, l33_0, hlt, c1, c2, c3, c4, c5, hx, lx, e1, e1', e1n, w3]
      exact this
    | true =>
    have e1' : (x.j.toList != j.toList) = false := by simpa using e1
    have e1n : x.j.toList = j.toList := by simpa using e1
    by_cases e2 : x.y > y
    · have := skip (by rw [if_pos (.inr (.inl e2))])
      simp [wpk_skip, wpk_seq, k_cond, wpk_block, wpk_exit, wpk_ret, wpk_loop, k_ops, k_draw0, t_nil, t_cons, KT_eq, KD_eq, wpo_nil, k_cons, k_step, mt_some, mtk_some, KO_eq, KP_eq, K_normal, K_ret, K_exit, KB_normal, KB_ret, KB_exit, KL_normal, KL_ret, KL_exit, k_ret, k_normal, stepE, isCall, calleeE, opE, wantE, odE, odS, odL, odSL, fget, fput, initE, keepF, List.map_cons, List.map_nil, binE, intOp, strOp, shOp, unE, eqpE, eqnE, neqB, ressE, resE, packL, packE, flat1, fcells, fillE, setL, cellsOf_bind, cellsO_own, cellsO_ro, lenE_sl, lenE_nils, lenE_sl0, bound, rep, minE, maxE, List.getElem?_cons_zero, List.getElem?_cons_succ, get_lt, set_lt, get_len, get_len_add, set_len, set_len_add, List.append_assoc, List.cons_append, List.nil_append, -getElem?_pos, l33_0_2, l33_0_1, l33_0, hlt, c1, c2, c3, c4, c5, hx, lx, e1, e1', e1n, e2, w3]
      exact this
    by_cases e3 : x.p > p
    · have := skip (by rw [if_pos (.inr (.inr e3))])
      simp [wpk_skip, wpk_seq, k_cond, wpk_block, wpk_exit, wpk_ret, wpk_loop, k_ops, k_draw0, t_nil, t_cons, KT_eq, KD_eq, wpo_nil, k_cons, k_step, mt_some, mtk_some, KO_eq, KP_eq, K_normal, K_ret, K_exit, KB_normal, KB_ret, KB_exit, KL_normal, KL_ret, KL_exit, k_ret, k_normal, stepE, isCall, calleeE, opE, wantE, odE, odS, odL, odSL, fget, fput, initE, keepF, List.map_cons, List.map_nil, binE, intOp, strOp, shOp, unE, eqpE, eqnE, neqB, ressE, resE, packL, packE, flat1, fcells, fillE, setL, cellsOf_bind, cellsO_own, cellsO_ro, lenE_sl, lenE_nils, lenE_sl0, bound, rep, minE, maxE, List.getElem?_cons_zero, List.getElem?_cons_succ, get_lt, set_lt, get_len, get_len_add, set_len, set_len_add, List.append_assoc, List.cons_append, List.nil_append, -getElem?_pos, l33_0_2, l33_0_1, l33_0, hlt, c1, c2, c3, c4, c5, hx, lx, e1, e1', e1n, e2, e3, w3]
      exact this
    rw [if_neg (by rw [e1]; simp; omega)] at skip take
    cases s with
    | none =>
      have := take rfl
      simp [wpk_skip, wpk_seq, k_cond, wpk_block, wpk_exit, wpk_ret, wpk_loop, k_ops, k_draw0, t_nil, t_cons, KT_eq, KD_eq, wpo_nil, k_cons, k_step, mt_some, mtk_some, KO_eq, KP_eq, K_normal, K_ret, K_exit, KB_normal, KB_ret, KB_exit, KL_normal, KL_ret, KL_exit, k_ret, k_normal, stepE, isCall, calleeE, opE, wantE, odE, odS, odL, odSL, fget, fput, initE, keepF, List.map_cons, List.map_nil, binE, intOp, strOp, shOp, unE, eqpE, eqnE, neqB, ressE, resE, packL, packE, flat1, fcells, fillE, setL, cellsOf_bind, cellsO_own, cellsO_ro, lenE_sl, lenE_nils, lenE_sl0, bound, rep, minE, maxE, List.getElem?_cons_zero, List.getElem?_cons_succ, get_lt, set_lt, get_len, get_len_add, set_len, set_len_add, List.append_assoc, List.cons_append, List.nil_append, -getElem?_pos, l33_0_2, l33_0_1, l33_0, hlt, c1, c2, c3, c4, c5, hx, lx, e1, e1', e1n, e2, e3, w3]
      exact this
    | some b =>
      have hx' : h'[h.length]? = some (.own 63 [.str b.j, .int .i64 b.y, .int .i64 b.r, .int .i64 b.p]) := hx
      simp only at skip take
      by_cases e4 : x.y > b.y
      · have := take (by rw [if_pos (.inl e4)])
        simp [wpk_skip, wpk_seq, k_cond, wpk_block, wpk_exit, wpk_ret, wpk_loop, k_ops, k_draw0, t_nil, t_cons, KT_eq, KD_eq, wpo_nil, k_cons, k_step, mt_some, mtk_some, KO_eq, KP_eq, K_normal, K_ret, K_exit, KB_normal, KB_ret, KB_exit, KL_normal, KL_ret, KL_exit, k_ret, k_normal, stepE, isCall, calleeE, opE, wantE, odE, odS, odL, odSL, fget, fput, initE, keepF, List.map_cons, List.map_nil, binE, intOp, strOp, shOp, unE, eqpE, eqnE, neqB, ressE, resE, packL, packE, flat1, fcells, fillE, setL, cellsOf_bind, cellsO_own, cellsO_ro, lenE_sl, lenE_nils, lenE_sl0, bound, rep, minE, maxE, List.getElem?_cons_zero, List.getElem?_cons_succ, get_lt, set_lt, get_len, get_len_add, set_len, set_len_add, List.append_assoc, List.cons_append, List.nil_append, -getElem?_pos, l33_0_2, l33_0_1, l33_0, hlt, c1, c2, c3, c4, c5, hx', lx, e1, e1', e1n, e2, e3, e4, w3]
        exact this
      · cases e5 : x.y == b.y with
        | false =>
          have e5' : ¬ x.y = b.y := by simpa using e5
          have := skip (by rw [if_neg (by omega)])
          simp [wpk_skip, wpk_seq, k_cond, wpk_block, wpk_exit, wpk_ret, wpk_loop, k_ops, k_draw0, t_nil, t_cons, KT_eq, KD_eq, wpo_nil, k_cons, k_step, mt_some, mtk_some, KO_eq, KP_eq, K_normal, K_ret, K_exit, KB_normal, KB_ret, KB_exit, KL_normal, KL_ret, KL_exit, k_ret, k_normal, stepE, isCall, calleeE, opE, wantE, odE, odS, odL, odSL, fget, fput, initE, keepF, List.map_cons, List.map_nil, binE, intOp, strOp, shOp, unE, eqpE, eqnE, neqB, ressE, resE, packL, packE, flat1, fcells, fillE, setL, cellsOf_bind, cellsO_own, cellsO_ro, lenE_sl, lenE_nils, lenE_sl0, bound, rep, minE, maxE, List.getElem?_cons_zero, List.getElem?_cons_succ, get_lt, set_lt, get_len, get_len_add, set_len, set_len_add, List.append_assoc, List.cons_append, List.nil_append, -getElem?_pos, l33_0_2, l33_0_1, l33_0, hlt, c1, c2, c3, c4, c5, hx', lx, e1, e1', e1n, e2, e3, e4, e5, w3]
          exact this
        | true =>
          have e5' : x.y = b.y := by simpa using e5
          by_cases e6 : x.p > b.p
          · have := take (by rw [if_pos (by omega)])
            simp [wpk_skip, wpk_seq, k_cond, wpk_block, wpk_exit, wpk_ret, wpk_loop, k_ops, k_draw0, t_nil, t_cons, KT_eq, KD_eq, wpo_nil, k_cons, k_step, mt_some, mtk_some, KO_eq, KP_eq, K_normal, K_ret, K_exit, KB_normal, KB_ret, KB_exit, KL_normal, KL_ret, KL_exit, k_ret, k_normal, stepE, isCall, calleeE, opE, wantE, odE, odS, odL, odSL, fget, fput, initE, keepF, List.map_cons, List.map_nil, binE, intOp, strOp, shOp, unE, eqpE, eqnE, neqB, ressE, resE, packL, packE, flat1, fcells, fillE, setL, cellsOf_bind, cellsO_own, cellsO_ro, lenE_sl, lenE_nils, lenE_sl0, bound, rep, minE, maxE, List.getElem?_cons_zero, List.getElem?_cons_succ, get_lt, set_lt, get_len, get_len_add, set_len, set_len_add, List.append_assoc, List.cons_append, List.nil_append, -getElem?_pos, l33_0_2, l33_0_1, l33_0, hlt, c1, c2, c3, c4, c5, hx', lx, e1, e1', e1n, e2, e3, e4, e5, e6, w3]
            exact this
          · have := skip (by rw [if_neg (by omega)])
            simp [wpk_skip, wpk_seq, k_cond, wpk_block, wpk_exit, wpk_ret, wpk_loop, k_ops, k_draw0, t_nil, t_cons, KT_eq, KD_eq, wpo_nil, k_cons, k_step, mt_some, mtk_some, KO_eq, KP_eq, K_normal, K_ret, K_exit, KB_normal, KB_ret, KB_exit, KL_normal, KL_ret, KL_exit, k_ret, k_normal, stepE, isCall, calleeE, opE, wantE, odE, odS, odL, odSL, fget, fput, initE, keepF, List.map_cons, List.map_nil, binE, intOp, strOp, shOp, unE, eqpE, eqnE, neqB, ressE, resE, packL, packE, flat1, fcells, fillE, setL, cellsOf_bind, cellsO_own, cellsO_ro, lenE_sl, lenE_nils, lenE_sl0, bound, rep, minE, maxE, List.getElem?_cons_zero, List.getElem?_cons_succ, get_lt, set_lt, get_len, get_len_add, set_len, set_len_add, List.append_assoc, List.cons_append, List.nil_append, -getElem?_pos, l33_0_2, l33_0_1, l33_0, hlt, c1, c2, c3, c4, c5, hx', lx, e1, e1', e1n, e2, e3, e4, e5, e6, w3]
            exact this
  · obtain rfl : k = l.length := by omega
    have lx := lt_of_some hx
    rw [List.drop_eq_nil_of_le (Nat.le_refl _)] at he
    have he' : s = bestF j y p l := he
    subst he'
    have hr : (rowOf (bestF j y p l)).r = rateOf (bestF j y p l) := by
      cases bestF j y p l with
      | none => rfl
      | some x => rfl
    simp only [encR] at hx
    rw [hr] at hx
    simp [wpk_skip, wpk_seq, k_cond, wpk_block, wpk_exit, wpk_ret, wpk_loop, k_ops, k_draw0, t_nil, t_cons, KT_eq, KD_eq, wpo_nil, k_cons, k_step, mt_some, mtk_some, KO_eq, KP_eq, K_normal, K_ret, K_exit, KB_normal, KB_ret, KB_exit, KL_normal, KL_ret, KL_exit, k_ret, k_normal, stepE, isCall, calleeE, opE, wantE, odE, odS, odL, odSL, fget, fput, initE, keepF, List.map_cons, List.map_nil, binE, intOp, strOp, shOp, unE, eqpE, eqnE, neqB, ressE, resE, packL, packE, flat1, fcells, fillE, setL, cellsOf_bind, cellsO_own, cellsO_ro, lenE_sl, lenE_nils, lenE_sl0, bound, rep, minE, maxE, List.getElem?_cons_zero, List.getElem?_cons_succ, get_lt, set_lt, get_len, get_len_add, set_len, set_len_add, List.append_assoc, List.cons_append, List.nil_append, -getElem?_pos, l33_0_2, l33_0_1, l33_0, hlt, hx, lx]
    exact hΨ _ _ ⟨gr, rfl⟩
end Go.Proofs.Ytcimcccnhbbncaa.Ev.CE
