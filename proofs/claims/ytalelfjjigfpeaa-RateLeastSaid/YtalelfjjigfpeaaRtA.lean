/- Parts and sums on the small machine. -/
import Derived.Test.YtalelfjjigfpeaaCodeQ
set_option linter.unusedSimpArgs false
set_option linter.unusedVariables false
namespace Go.Proofs.Ytalelfjjigfpeaa.Ev.CQ
open Go

def is64 (n : Int) : Prop := -9223372036854775808 ≤ n ∧ n < 9223372036854775808
theorem tdiv_64 {n : Int} (hn : is64 n) (d : Int) (hd : 1 < d) : IntKind.i64.wrap (n.tdiv d) = n.tdiv d := by
  have a1 : (n.tdiv d).natAbs ≤ n.natAbs := by
    rw [Int.natAbs_tdiv]; exact Nat.div_le_self _ _
  have a2 : n.natAbs ≤ 9223372036854775808 := by unfold is64 at hn; omega
  by_cases e : n = -9223372036854775808
  · have : (n.tdiv d).natAbs < 9223372036854775808 := by
      rw [Int.natAbs_tdiv]
      exact Nat.div_lt_of_lt_mul (by have : n.natAbs = 9223372036854775808 := by omega
                                     rw [this]; omega)
    exact wrap_small (by omega) (by omega)
  · have : n.natAbs < 9223372036854775808 := by unfold is64 at hn; omega
    exact wrap_small (by omega) (by omega)

theorem wrap_64 (n : Int) : is64 (IntKind.i64.wrap n) := by
  unfold is64
  simp [IntKind.wrap, IntKind.bits, IntKind.signed]; omega

theorem within_ok (v n : Int) (hn : 1 ≤ n ∧ n ≤ 1000000000000) (h : LH) : callX C 13 [.s (.int .i64 v), .s (.int .i64 n)] h = some (.s (.int .i64 (v % n)), h) := by
  apply callX_wp
  refine WPc.intro (e := e13) rfl (by simp [e13]) ?_
  show WPk C b13 _ _ (KR [.tmp 4] _)
  have h1 : ¬ (n < 1) := by omega
  have h2 : ¬ (n = 0) := by omega
  have q1 := Int.tmod_lt_of_pos v (show 0 < n by omega)
  have q2 := Int.lt_tmod_of_pos v (show 0 < n by omega)
  have key : v.tmod n = if v.tmod n < 0 then v % n - n else v % n := by
    have e : v % n = (v.tmod n) % n := by
      have h := Int.mul_tdiv_add_tmod v n
      calc v % n = (n * v.tdiv n + v.tmod n) % n := by rw [h]
        _ = (v.tmod n) % n := by rw [Int.add_comm, Int.add_mul_emod_self_left]
    split
    · have : (v.tmod n) % n = v.tmod n + n := by
        rw [← Int.add_emod_right, Int.emod_eq_of_lt (by omega) (by omega)]
      omega
    · rw [e, Int.emod_eq_of_lt (by omega) (by omega)]
  have hlt := Int.emod_lt_of_pos v (show 0 < n by omega)
  have hge := Int.emod_nonneg v (show n ≠ 0 by omega)
  by_cases hk : v.tmod n < 0
  · rw [if_pos hk] at key
    have hw : IntKind.i64.wrap (v.tmod n + n) = v % n := by rw [wrap_small (by omega) (by omega)]; omega
    simp [wpk_skip, wpk_seq, k_cond, wpk_block, wpk_exit, wpk_ret, wpk_loop, k_ops, k_draw0, t_nil, t_cons, KT_eq, KD_eq, wpo_nil, k_cons, k_step, mt_some, mtk_some, KO_eq, KP_eq, K_normal, K_ret, K_exit, KB_normal, KB_ret, KB_exit, KL_normal, KL_ret, KL_exit, k_ret, k_normal, stepE, isCall, calleeE, opE, wantE, odE, odS, odL, odSL, fget, fput, initE, keepF, List.map_cons, List.map_nil, binE, intOp, strOp, shOp, unE, eqpE, eqnE, neqB, ressE, resE, packL, packE, flat1, fcells, fillE, setL, cellsOf_bind, cellsO_own, cellsO_ro, lenE_sl, lenE_nils, lenE_sl0, bound, rep, minE, maxE, List.getElem?_cons_zero, List.getElem?_cons_succ, get_lt, set_lt, get_len, get_len_add, set_len, set_len_add, List.append_assoc, List.cons_append, List.nil_append, -getElem?_pos, b13, s13_4, s13_3, s13_2, s13_1, h1, h2, hk, hw]
  · rw [if_neg hk] at key
    simp [wpk_skip, wpk_seq, k_cond, wpk_block, wpk_exit, wpk_ret, wpk_loop, k_ops, k_draw0, t_nil, t_cons, KT_eq, KD_eq, wpo_nil, k_cons, k_step, mt_some, mtk_some, KO_eq, KP_eq, K_normal, K_ret, K_exit, KB_normal, KB_ret, KB_exit, KL_normal, KL_ret, KL_exit, k_ret, k_normal, stepE, isCall, calleeE, opE, wantE, odE, odS, odL, odSL, fget, fput, initE, keepF, List.map_cons, List.map_nil, binE, intOp, strOp, shOp, unE, eqpE, eqnE, neqB, ressE, resE, packL, packE, flat1, fcells, fillE, setL, cellsOf_bind, cellsO_own, cellsO_ro, lenE_sl, lenE_nils, lenE_sl0, bound, rep, minE, maxE, List.getElem?_cons_zero, List.getElem?_cons_succ, get_lt, set_lt, get_len, get_len_add, set_len, set_len_add, List.append_assoc, List.cons_append, List.nil_append, -getElem?_pos, b13, s13_4, s13_3, s13_2, s13_1, h1, h2, hk]
    exact key


theorem money_ok (p : Int) (h : LH) : callX C 17 [.s (.int .i64 p)] h = some (.s (.bool (decide (-100000000000 ≤ p ∧ p ≤ 100000000000))), h) := by
  apply callX_wp
  refine WPc.intro (e := e17) rfl (by simp [e17]) ?_
  show WPk C b17 _ _ (KR [.tmp 2] _)
  by_cases h0 : p ≥ -100000000000
  · simp [wpk_skip, wpk_seq, k_cond, wpk_block, wpk_exit, wpk_ret, wpk_loop, k_ops, k_draw0, t_nil, t_cons, KT_eq, KD_eq, wpo_nil, k_cons, k_step, mt_some, mtk_some, KO_eq, KP_eq, K_normal, K_ret, K_exit, KB_normal, KB_ret, KB_exit, KL_normal, KL_ret, KL_exit, k_ret, k_normal, stepE, isCall, calleeE, opE, wantE, odE, odS, odL, odSL, fget, fput, initE, keepF, List.map_cons, List.map_nil, binE, intOp, strOp, shOp, unE, eqpE, eqnE, neqB, ressE, resE, packL, packE, flat1, fcells, fillE, setL, cellsOf_bind, cellsO_own, cellsO_ro, lenE_sl, lenE_nils, lenE_sl0, bound, rep, minE, maxE, List.getElem?_cons_zero, List.getElem?_cons_succ, get_lt, set_lt, get_len, get_len_add, set_len, set_len_add, List.append_assoc, List.cons_append, List.nil_append, -getElem?_pos, b17, s17_1, h0]
  · simp [wpk_skip, wpk_seq, k_cond, wpk_block, wpk_exit, wpk_ret, wpk_loop, k_ops, k_draw0, t_nil, t_cons, KT_eq, KD_eq, wpo_nil, k_cons, k_step, mt_some, mtk_some, KO_eq, KP_eq, K_normal, K_ret, K_exit, KB_normal, KB_ret, KB_exit, KL_normal, KL_ret, KL_exit, k_ret, k_normal, stepE, isCall, calleeE, opE, wantE, odE, odS, odL, odSL, fget, fput, initE, keepF, List.map_cons, List.map_nil, binE, intOp, strOp, shOp, unE, eqpE, eqnE, neqB, ressE, resE, packL, packE, flat1, fcells, fillE, setL, cellsOf_bind, cellsO_own, cellsO_ro, lenE_sl, lenE_nils, lenE_sl0, bound, rep, minE, maxE, List.getElem?_cons_zero, List.getElem?_cons_succ, get_lt, set_lt, get_len, get_len_add, set_len, set_len_add, List.append_assoc, List.cons_append, List.nil_append, -getElem?_pos, b17, s17_1, h0]

theorem rmoney_ok (p : Int) (h : LH) : callX C 27 [.s (.int .i64 p)] h = some (.s (.bool (decide (-100000000000 ≤ p ∧ p ≤ 100000000000))), h) := by
  apply callX_wp
  refine WPc.intro (e := e27) rfl (by simp [e27]) ?_
  show WPk C b27 _ _ (KR [.tmp 2] _)
  by_cases h0 : p ≥ -100000000000
  · simp [wpk_skip, wpk_seq, k_cond, wpk_block, wpk_exit, wpk_ret, wpk_loop, k_ops, k_draw0, t_nil, t_cons, KT_eq, KD_eq, wpo_nil, k_cons, k_step, mt_some, mtk_some, KO_eq, KP_eq, K_normal, K_ret, K_exit, KB_normal, KB_ret, KB_exit, KL_normal, KL_ret, KL_exit, k_ret, k_normal, stepE, isCall, calleeE, opE, wantE, odE, odS, odL, odSL, fget, fput, initE, keepF, List.map_cons, List.map_nil, binE, intOp, strOp, shOp, unE, eqpE, eqnE, neqB, ressE, resE, packL, packE, flat1, fcells, fillE, setL, cellsOf_bind, cellsO_own, cellsO_ro, lenE_sl, lenE_nils, lenE_sl0, bound, rep, minE, maxE, List.getElem?_cons_zero, List.getElem?_cons_succ, get_lt, set_lt, get_len, get_len_add, set_len, set_len_add, List.append_assoc, List.cons_append, List.nil_append, -getElem?_pos, b27, s27_1, h0]
  · simp [wpk_skip, wpk_seq, k_cond, wpk_block, wpk_exit, wpk_ret, wpk_loop, k_ops, k_draw0, t_nil, t_cons, KT_eq, KD_eq, wpo_nil, k_cons, k_step, mt_some, mtk_some, KO_eq, KP_eq, K_normal, K_ret, K_exit, KB_normal, KB_ret, KB_exit, KL_normal, KL_ret, KL_exit, k_ret, k_normal, stepE, isCall, calleeE, opE, wantE, odE, odS, odL, odSL, fget, fput, initE, keepF, List.map_cons, List.map_nil, binE, intOp, strOp, shOp, unE, eqpE, eqnE, neqB, ressE, resE, packL, packE, flat1, fcells, fillE, setL, cellsOf_bind, cellsO_own, cellsO_ro, lenE_sl, lenE_nils, lenE_sl0, bound, rep, minE, maxE, List.getElem?_cons_zero, List.getElem?_cons_succ, get_lt, set_lt, get_len, get_len_add, set_len, set_len_add, List.append_assoc, List.cons_append, List.nil_append, -getElem?_pos, b27, s27_1, h0]

theorem right_ok (p : Int) (h : LH) : callX C 18 [.s (.int .i64 p)] h = some (.s (.bool (decide (0 ≤ p ∧ p ≤ 1000000))), h) := by
  apply callX_wp
  refine WPc.intro (e := e18) rfl (by simp [e18]) ?_
  show WPk C b18 _ _ (KR [.tmp 2] _)
  by_cases h0 : p ≥ 0
  · simp [wpk_skip, wpk_seq, k_cond, wpk_block, wpk_exit, wpk_ret, wpk_loop, k_ops, k_draw0, t_nil, t_cons, KT_eq, KD_eq, wpo_nil, k_cons, k_step, mt_some, mtk_some, KO_eq, KP_eq, K_normal, K_ret, K_exit, KB_normal, KB_ret, KB_exit, KL_normal, KL_ret, KL_exit, k_ret, k_normal, stepE, isCall, calleeE, opE, wantE, odE, odS, odL, odSL, fget, fput, initE, keepF, List.map_cons, List.map_nil, binE, intOp, strOp, shOp, unE, eqpE, eqnE, neqB, ressE, resE, packL, packE, flat1, fcells, fillE, setL, cellsOf_bind, cellsO_own, cellsO_ro, lenE_sl, lenE_nils, lenE_sl0, bound, rep, minE, maxE, List.getElem?_cons_zero, List.getElem?_cons_succ, get_lt, set_lt, get_len, get_len_add, set_len, set_len_add, List.append_assoc, List.cons_append, List.nil_append, -getElem?_pos, b18, s18_1, h0]
  · simp [wpk_skip, wpk_seq, k_cond, wpk_block, wpk_exit, wpk_ret, wpk_loop, k_ops, k_draw0, t_nil, t_cons, KT_eq, KD_eq, wpo_nil, k_cons, k_step, mt_some, mtk_some, KO_eq, KP_eq, K_normal, K_ret, K_exit, KB_normal, KB_ret, KB_exit, KL_normal, KL_ret, KL_exit, k_ret, k_normal, stepE, isCall, calleeE, opE, wantE, odE, odS, odL, odSL, fget, fput, initE, keepF, List.map_cons, List.map_nil, binE, intOp, strOp, shOp, unE, eqpE, eqnE, neqB, ressE, resE, packL, packE, flat1, fcells, fillE, setL, cellsOf_bind, cellsO_own, cellsO_ro, lenE_sl, lenE_nils, lenE_sl0, bound, rep, minE, maxE, List.getElem?_cons_zero, List.getElem?_cons_succ, get_lt, set_lt, get_len, get_len_add, set_len, set_len_add, List.append_assoc, List.cons_append, List.nil_append, -getElem?_pos, b18, s18_1, h0]

theorem rright_ok (p : Int) (h : LH) : callX C 28 [.s (.int .i64 p)] h = some (.s (.bool (decide (0 ≤ p ∧ p ≤ 1000000))), h) := by
  apply callX_wp
  refine WPc.intro (e := e28) rfl (by simp [e28]) ?_
  show WPk C b28 _ _ (KR [.tmp 2] _)
  by_cases h0 : p ≥ 0
  · simp [wpk_skip, wpk_seq, k_cond, wpk_block, wpk_exit, wpk_ret, wpk_loop, k_ops, k_draw0, t_nil, t_cons, KT_eq, KD_eq, wpo_nil, k_cons, k_step, mt_some, mtk_some, KO_eq, KP_eq, K_normal, K_ret, K_exit, KB_normal, KB_ret, KB_exit, KL_normal, KL_ret, KL_exit, k_ret, k_normal, stepE, isCall, calleeE, opE, wantE, odE, odS, odL, odSL, fget, fput, initE, keepF, List.map_cons, List.map_nil, binE, intOp, strOp, shOp, unE, eqpE, eqnE, neqB, ressE, resE, packL, packE, flat1, fcells, fillE, setL, cellsOf_bind, cellsO_own, cellsO_ro, lenE_sl, lenE_nils, lenE_sl0, bound, rep, minE, maxE, List.getElem?_cons_zero, List.getElem?_cons_succ, get_lt, set_lt, get_len, get_len_add, set_len, set_len_add, List.append_assoc, List.cons_append, List.nil_append, -getElem?_pos, b28, s28_1, h0]
  · simp [wpk_skip, wpk_seq, k_cond, wpk_block, wpk_exit, wpk_ret, wpk_loop, k_ops, k_draw0, t_nil, t_cons, KT_eq, KD_eq, wpo_nil, k_cons, k_step, mt_some, mtk_some, KO_eq, KP_eq, K_normal, K_ret, K_exit, KB_normal, KB_ret, KB_exit, KL_normal, KL_ret, KL_exit, k_ret, k_normal, stepE, isCall, calleeE, opE, wantE, odE, odS, odL, odSL, fget, fput, initE, keepF, List.map_cons, List.map_nil, binE, intOp, strOp, shOp, unE, eqpE, eqnE, neqB, ressE, resE, packL, packE, flat1, fcells, fillE, setL, cellsOf_bind, cellsO_own, cellsO_ro, lenE_sl, lenE_nils, lenE_sl0, bound, rep, minE, maxE, List.getElem?_cons_zero, List.getElem?_cons_succ, get_lt, set_lt, get_len, get_len_add, set_len, set_len_add, List.append_assoc, List.cons_append, List.nil_append, -getElem?_pos, b28, s28_1, h0]

def ofOk (n r : Int) : Prop := -400000000000 ≤ n ∧ n ≤ 400000000000 ∧ 0 ≤ r ∧ r ≤ 10000000
instance (n r : Int) : Decidable (ofOk n r) := by unfold ofOk; infer_instance
def ofF (n r : Int) : Int := if n < 0 then (2 * n * r - 1000000).tdiv 2000000 else (2 * n * r + 1000000).tdiv 2000000
theorem mul_bounds {n r N R : Int} (hN : -N ≤ n ∧ n ≤ N) (hR : 0 ≤ r ∧ r ≤ R) (h0 : 0 ≤ N) : -(N * R) ≤ n * r ∧ n * r ≤ N * R := by
  have a : n * r ≤ N * r := Int.mul_le_mul_of_nonneg_right hN.2 hR.1
  have b : N * r ≤ N * R := Int.mul_le_mul_of_nonneg_left hR.2 h0
  have c : -N * r ≤ n * r := Int.mul_le_mul_of_nonneg_right hN.1 hR.1
  rw [Int.neg_mul] at c
  omega
theorem of_ok {n r : Int} (hk : ofOk n r) (h : LH) : callX C 14 [.s (.int .i64 n), .s (.int .i64 r)] h = some (.tup [.s (.int .i64 (ofF n r)), .s (.bool true)], h) := by
  apply callX_wp
  refine WPc.intro (e := e14) rfl (by simp [e14]) ?_
  show WPk C b14 _ _ (KR [.tmp 4, .tmp 5] _)
  have hk' := hk
  unfold ofOk at hk'
  have a1 : ¬ n < -400000000000 := by omega
  have a2 : ¬ n > 400000000000 := by omega
  have a3 : ¬ r < 0 := by omega
  have a4 : ¬ r > 10000000 := by omega
  have b := mul_bounds (n := n) (r := r) (N := 400000000000) (R := 10000000) (by omega) (by omega) (by omega)
  have e : 2 * n * r = 2 * (n * r) := Int.mul_assoc _ _ _
  have w1 : IntKind.i64.wrap (2 * n) = 2 * n := wrap_small (by omega) (by omega)
  have w2 : IntKind.i64.wrap (2 * n * r) = 2 * n * r := by rw [e]; exact wrap_small (by omega) (by omega)
  unfold ofF
  by_cases c : n < 0
  · have w3 : IntKind.i64.wrap (2 * n * r - 1000000) = 2 * n * r - 1000000 := by rw [e]; exact wrap_small (by omega) (by omega)
    have w4 := tdiv_64 (n := 2 * n * r - 1000000) (by rw [e]; unfold is64; omega) 2000000 (by omega)
    simp [wpk_skip, wpk_seq, k_cond, wpk_block, wpk_exit, wpk_ret, wpk_loop, k_ops, k_draw0, t_nil, t_cons, KT_eq, KD_eq, wpo_nil, k_cons, k_step, mt_some, mtk_some, KO_eq, KP_eq, K_normal, K_ret, K_exit, KB_normal, KB_ret, KB_exit, KL_normal, KL_ret, KL_exit, k_ret, k_normal, stepE, isCall, calleeE, opE, wantE, odE, odS, odL, odSL, fget, fput, initE, keepF, List.map_cons, List.map_nil, binE, intOp, strOp, shOp, unE, eqpE, eqnE, neqB, ressE, resE, packL, packE, flat1, fcells, fillE, setL, cellsOf_bind, cellsO_own, cellsO_ro, lenE_sl, lenE_nils, lenE_sl0, bound, rep, minE, maxE, List.getElem?_cons_zero, List.getElem?_cons_succ, get_lt, set_lt, get_len, get_len_add, set_len, set_len_add, List.append_assoc, List.cons_append, List.nil_append, -getElem?_pos, b14, s14_4, s14_3, s14_2, s14_1, a1, a2, a3, a4, c, w1, w2, w3, w4]
  · have w3 : IntKind.i64.wrap (2 * n * r + 1000000) = 2 * n * r + 1000000 := by rw [e]; exact wrap_small (by omega) (by omega)
    have w4 := tdiv_64 (n := 2 * n * r + 1000000) (by rw [e]; unfold is64; omega) 2000000 (by omega)
    simp [wpk_skip, wpk_seq, k_cond, wpk_block, wpk_exit, wpk_ret, wpk_loop, k_ops, k_draw0, t_nil, t_cons, KT_eq, KD_eq, wpo_nil, k_cons, k_step, mt_some, mtk_some, KO_eq, KP_eq, K_normal, K_ret, K_exit, KB_normal, KB_ret, KB_exit, KL_normal, KL_ret, KL_exit, k_ret, k_normal, stepE, isCall, calleeE, opE, wantE, odE, odS, odL, odSL, fget, fput, initE, keepF, List.map_cons, List.map_nil, binE, intOp, strOp, shOp, unE, eqpE, eqnE, neqB, ressE, resE, packL, packE, flat1, fcells, fillE, setL, cellsOf_bind, cellsO_own, cellsO_ro, lenE_sl, lenE_nils, lenE_sl0, bound, rep, minE, maxE, List.getElem?_cons_zero, List.getElem?_cons_succ, get_lt, set_lt, get_len, get_len_add, set_len, set_len_add, List.append_assoc, List.cons_append, List.nil_append, -getElem?_pos, b14, s14_4, s14_3, s14_2, s14_1, a1, a2, a3, a4, c, w1, w2, w3, w4]
theorem ofF_bound {n r : Int} (hn : -100000000000 ≤ n ∧ n ≤ 100000000000) (hr : 0 ≤ r ∧ r ≤ 1000000) : -200000000000 ≤ ofF n r ∧ ofF n r ≤ 200000000000 := by
  have b := mul_bounds (n := n) (r := r) (N := 100000000000) (R := 1000000) (by omega) hr (by omega)
  have e : 2 * n * r = 2 * (n * r) := Int.mul_assoc _ _ _
  unfold ofF
  rw [e]
  generalize n * r = x at b
  split
  · have h := Int.mul_tdiv_add_tmod (2 * x - 1000000) 2000000
    have h1 := Int.tmod_lt_of_pos (2 * x - 1000000) (show (0 : Int) < 2000000 by omega)
    have h2 := Int.lt_tmod_of_pos (2 * x - 1000000) (show (0 : Int) < 2000000 by omega)
    generalize (2 * x - 1000000).tdiv 2000000 = q at *
    generalize (2 * x - 1000000).tmod 2000000 = m at *
    omega
  · have h := Int.mul_tdiv_add_tmod (2 * x + 1000000) 2000000
    have h1 := Int.tmod_lt_of_pos (2 * x + 1000000) (show (0 : Int) < 2000000 by omega)
    have h2 := Int.lt_tmod_of_pos (2 * x + 1000000) (show (0 : Int) < 2000000 by omega)
    generalize (2 * x + 1000000).tdiv 2000000 = q at *
    generalize (2 * x + 1000000).tmod 2000000 = m at *
    omega


def floorOk (n r : Int) : Prop := 0 ≤ n ∧ n ≤ 100000000000 ∧ 0 ≤ r ∧ r ≤ 1000000
instance (n r : Int) : Decidable (floorOk n r) := by unfold floorOk; infer_instance
theorem floor_w {n r : Int} (hk : floorOk n r) : IntKind.i64.wrap (n * r) = n * r ∧ IntKind.i64.wrap ((n * r).tdiv 1000000) = (n * r).tdiv 1000000 := by
  unfold floorOk at hk
  have a : 0 ≤ n * r := Int.mul_nonneg hk.1 hk.2.2.1
  have b : n * r ≤ 100000000000 * 1000000 := Int.mul_le_mul hk.2.1 hk.2.2.2 hk.2.2.1 (by omega)
  generalize n * r = x at a b
  exact ⟨wrap_small (by omega) (by omega), tdiv_64 (by unfold is64; omega) _ (by omega)⟩
theorem floor_ok (n r : Int) (h : LH) : callX C 16 [.s (.int .i64 n), .s (.int .i64 r)] h = some (if floorOk n r then .tup [.s (.int .i64 ((n * r).tdiv 1000000)), .s (.bool true)] else .tup [.s (.int .i64 0), .s (.bool false)], h) := by
  apply callX_wp
  refine WPc.intro (e := e16) rfl (by simp [e16]) ?_
  show WPk C b16 _ _ (KR [.tmp 4, .tmp 5] _)
  by_cases hk : floorOk n r
  · obtain ⟨w1, w2⟩ := floor_w hk
    have hk' := hk
    unfold floorOk at hk'
    have a1 : -100000000000 ≤ n ∧ n ≤ 100000000000 := by omega
    have a2 : ¬ n < 0 := by omega
    simp [wpk_skip, wpk_seq, k_cond, wpk_block, wpk_exit, wpk_ret, wpk_loop, k_ops, k_draw0, t_nil, t_cons, KT_eq, KD_eq, wpo_nil, k_cons, k_step, mt_some, mtk_some, KO_eq, KP_eq, K_normal, K_ret, K_exit, KB_normal, KB_ret, KB_exit, KL_normal, KL_ret, KL_exit, k_ret, k_normal, stepE, isCall, calleeE, opE, wantE, odE, odS, odL, odSL, fget, fput, initE, keepF, List.map_cons, List.map_nil, binE, intOp, strOp, shOp, unE, eqpE, eqnE, neqB, ressE, resE, packL, packE, flat1, fcells, fillE, setL, cellsOf_bind, cellsO_own, cellsO_ro, lenE_sl, lenE_nils, lenE_sl0, bound, rep, minE, maxE, List.getElem?_cons_zero, List.getElem?_cons_succ, get_lt, set_lt, get_len, get_len_add, set_len, set_len_add, List.append_assoc, List.cons_append, List.nil_append, -getElem?_pos, b16, s16_2, s16_1, money_ok, right_ok, a1, a2, hk'.2.2, w1, w2, hk]
  · have hk' := hk
    unfold floorOk at hk'
    by_cases a1 : -100000000000 ≤ n ∧ n ≤ 100000000000
    · by_cases a2 : n < 0
      · simp [wpk_skip, wpk_seq, k_cond, wpk_block, wpk_exit, wpk_ret, wpk_loop, k_ops, k_draw0, t_nil, t_cons, KT_eq, KD_eq, wpo_nil, k_cons, k_step, mt_some, mtk_some, KO_eq, KP_eq, K_normal, K_ret, K_exit, KB_normal, KB_ret, KB_exit, KL_normal, KL_ret, KL_exit, k_ret, k_normal, stepE, isCall, calleeE, opE, wantE, odE, odS, odL, odSL, fget, fput, initE, keepF, List.map_cons, List.map_nil, binE, intOp, strOp, shOp, unE, eqpE, eqnE, neqB, ressE, resE, packL, packE, flat1, fcells, fillE, setL, cellsOf_bind, cellsO_own, cellsO_ro, lenE_sl, lenE_nils, lenE_sl0, bound, rep, minE, maxE, List.getElem?_cons_zero, List.getElem?_cons_succ, get_lt, set_lt, get_len, get_len_add, set_len, set_len_add, List.append_assoc, List.cons_append, List.nil_append, -getElem?_pos, b16, s16_2, s16_1, money_ok, right_ok, a1, a2, hk]
      · have a3 : ¬ (0 ≤ r ∧ r ≤ 1000000) := by omega
        simp [wpk_skip, wpk_seq, k_cond, wpk_block, wpk_exit, wpk_ret, wpk_loop, k_ops, k_draw0, t_nil, t_cons, KT_eq, KD_eq, wpo_nil, k_cons, k_step, mt_some, mtk_some, KO_eq, KP_eq, K_normal, K_ret, K_exit, KB_normal, KB_ret, KB_exit, KL_normal, KL_ret, KL_exit, k_ret, k_normal, stepE, isCall, calleeE, opE, wantE, odE, odS, odL, odSL, fget, fput, initE, keepF, List.map_cons, List.map_nil, binE, intOp, strOp, shOp, unE, eqpE, eqnE, neqB, ressE, resE, packL, packE, flat1, fcells, fillE, setL, cellsOf_bind, cellsO_own, cellsO_ro, lenE_sl, lenE_nils, lenE_sl0, bound, rep, minE, maxE, List.getElem?_cons_zero, List.getElem?_cons_succ, get_lt, set_lt, get_len, get_len_add, set_len, set_len_add, List.append_assoc, List.cons_append, List.nil_append, -getElem?_pos, b16, s16_2, s16_1, money_ok, right_ok, a1, a2, a3, hk]
    · simp [wpk_skip, wpk_seq, k_cond, wpk_block, wpk_exit, wpk_ret, wpk_loop, k_ops, k_draw0, t_nil, t_cons, KT_eq, KD_eq, wpo_nil, k_cons, k_step, mt_some, mtk_some, KO_eq, KP_eq, K_normal, K_ret, K_exit, KB_normal, KB_ret, KB_exit, KL_normal, KL_ret, KL_exit, k_ret, k_normal, stepE, isCall, calleeE, opE, wantE, odE, odS, odL, odSL, fget, fput, initE, keepF, List.map_cons, List.map_nil, binE, intOp, strOp, shOp, unE, eqpE, eqnE, neqB, ressE, resE, packL, packE, flat1, fcells, fillE, setL, cellsOf_bind, cellsO_own, cellsO_ro, lenE_sl, lenE_nils, lenE_sl0, bound, rep, minE, maxE, List.getElem?_cons_zero, List.getElem?_cons_succ, get_lt, set_lt, get_len, get_len_add, set_len, set_len_add, List.append_assoc, List.cons_append, List.nil_append, -getElem?_pos, b16, s16_2, s16_1, money_ok, right_ok, a1, hk]

theorem rfloor_ok (n r : Int) (h : LH) : callX C 26 [.s (.int .i64 n), .s (.int .i64 r)] h = some (if floorOk n r then .tup [.s (.int .i64 ((n * r).tdiv 1000000)), .s (.bool true)] else .tup [.s (.int .i64 0), .s (.bool false)], h) := by
  apply callX_wp
  refine WPc.intro (e := e26) rfl (by simp [e26]) ?_
  show WPk C b26 _ _ (KR [.tmp 4, .tmp 5] _)
  by_cases hk : floorOk n r
  · obtain ⟨w1, w2⟩ := floor_w hk
    have hk' := hk
    unfold floorOk at hk'
    have a1 : -100000000000 ≤ n ∧ n ≤ 100000000000 := by omega
    have a2 : ¬ n < 0 := by omega
    simp [wpk_skip, wpk_seq, k_cond, wpk_block, wpk_exit, wpk_ret, wpk_loop, k_ops, k_draw0, t_nil, t_cons, KT_eq, KD_eq, wpo_nil, k_cons, k_step, mt_some, mtk_some, KO_eq, KP_eq, K_normal, K_ret, K_exit, KB_normal, KB_ret, KB_exit, KL_normal, KL_ret, KL_exit, k_ret, k_normal, stepE, isCall, calleeE, opE, wantE, odE, odS, odL, odSL, fget, fput, initE, keepF, List.map_cons, List.map_nil, binE, intOp, strOp, shOp, unE, eqpE, eqnE, neqB, ressE, resE, packL, packE, flat1, fcells, fillE, setL, cellsOf_bind, cellsO_own, cellsO_ro, lenE_sl, lenE_nils, lenE_sl0, bound, rep, minE, maxE, List.getElem?_cons_zero, List.getElem?_cons_succ, get_lt, set_lt, get_len, get_len_add, set_len, set_len_add, List.append_assoc, List.cons_append, List.nil_append, -getElem?_pos, b26, s26_2, s26_1, rmoney_ok, rright_ok, a1, a2, hk'.2.2, w1, w2, hk]
  · have hk' := hk
    unfold floorOk at hk'
    by_cases a2 : n < 0
    · simp [wpk_skip, wpk_seq, k_cond, wpk_block, wpk_exit, wpk_ret, wpk_loop, k_ops, k_draw0, t_nil, t_cons, KT_eq, KD_eq, wpo_nil, k_cons, k_step, mt_some, mtk_some, KO_eq, KP_eq, K_normal, K_ret, K_exit, KB_normal, KB_ret, KB_exit, KL_normal, KL_ret, KL_exit, k_ret, k_normal, stepE, isCall, calleeE, opE, wantE, odE, odS, odL, odSL, fget, fput, initE, keepF, List.map_cons, List.map_nil, binE, intOp, strOp, shOp, unE, eqpE, eqnE, neqB, ressE, resE, packL, packE, flat1, fcells, fillE, setL, cellsOf_bind, cellsO_own, cellsO_ro, lenE_sl, lenE_nils, lenE_sl0, bound, rep, minE, maxE, List.getElem?_cons_zero, List.getElem?_cons_succ, get_lt, set_lt, get_len, get_len_add, set_len, set_len_add, List.append_assoc, List.cons_append, List.nil_append, -getElem?_pos, b26, s26_2, s26_1, rmoney_ok, rright_ok, a2, hk]
    · by_cases a1 : -100000000000 ≤ n ∧ n ≤ 100000000000
      · have a3 : ¬ (0 ≤ r ∧ r ≤ 1000000) := by omega
        simp [wpk_skip, wpk_seq, k_cond, wpk_block, wpk_exit, wpk_ret, wpk_loop, k_ops, k_draw0, t_nil, t_cons, KT_eq, KD_eq, wpo_nil, k_cons, k_step, mt_some, mtk_some, KO_eq, KP_eq, K_normal, K_ret, K_exit, KB_normal, KB_ret, KB_exit, KL_normal, KL_ret, KL_exit, k_ret, k_normal, stepE, isCall, calleeE, opE, wantE, odE, odS, odL, odSL, fget, fput, initE, keepF, List.map_cons, List.map_nil, binE, intOp, strOp, shOp, unE, eqpE, eqnE, neqB, ressE, resE, packL, packE, flat1, fcells, fillE, setL, cellsOf_bind, cellsO_own, cellsO_ro, lenE_sl, lenE_nils, lenE_sl0, bound, rep, minE, maxE, List.getElem?_cons_zero, List.getElem?_cons_succ, get_lt, set_lt, get_len, get_len_add, set_len, set_len_add, List.append_assoc, List.cons_append, List.nil_append, -getElem?_pos, b26, s26_2, s26_1, rmoney_ok, rright_ok, a1, a2, a3, hk]
      · simp [wpk_skip, wpk_seq, k_cond, wpk_block, wpk_exit, wpk_ret, wpk_loop, k_ops, k_draw0, t_nil, t_cons, KT_eq, KD_eq, wpo_nil, k_cons, k_step, mt_some, mtk_some, KO_eq, KP_eq, K_normal, K_ret, K_exit, KB_normal, KB_ret, KB_exit, KL_normal, KL_ret, KL_exit, k_ret, k_normal, stepE, isCall, calleeE, opE, wantE, odE, odS, odL, odSL, fget, fput, initE, keepF, List.map_cons, List.map_nil, binE, intOp, strOp, shOp, unE, eqpE, eqnE, neqB, ressE, resE, packL, packE, flat1, fcells, fillE, setL, cellsOf_bind, cellsO_own, cellsO_ro, lenE_sl, lenE_nils, lenE_sl0, bound, rep, minE, maxE, List.getElem?_cons_zero, List.getElem?_cons_succ, get_lt, set_lt, get_len, get_len_add, set_len, set_len_add, List.append_assoc, List.cons_append, List.nil_append, -getElem?_pos, b26, s26_2, s26_1, rmoney_ok, rright_ok, a1, a2, hk]

def amountF (n : Int) : Int :=
  if n.tmod 23 = 20 then 100000000000 - (n.tdiv 23) % 5 + 2
  else if n.tmod 23 = 21 then -100000000000 + (n.tdiv 23) % 5 - 2
  else if n.tmod 23 = 22 then n
  else if n.tmod 23 = 19 then (n.tdiv 23) % 200000000001 - 100000000000
  else n % 4001 - 2000
theorem amount_64 {n : Int} (hn : is64 n) : is64 (amountF n) := by
  unfold amountF is64 at *
  have a1 : 0 ≤ (n.tdiv 23) % 5 ∧ (n.tdiv 23) % 5 < 5 := by omega
  have a2 : 0 ≤ (n.tdiv 23) % 200000000001 ∧ (n.tdiv 23) % 200000000001 < 200000000001 := by omega
  have a3 : 0 ≤ n % 4001 ∧ n % 4001 < 4001 := by omega
  split
  · omega
  · split
    · omega
    · split
      · omega
      · split <;> omega
theorem amount_ok {n : Int} (hn : is64 n) (h : LH) : callX C 23 [.s (.int .i64 n)] h = some (.s (.int .i64 (amountF n)), h) := by
  apply callX_wp
  refine WPc.intro (e := e23) rfl (by simp [e23]) ?_
  show WPk C b23 _ _ (KR [.tmp 2] _)
  have hd := tdiv_64 hn 23 (by omega)
  have a1 := Int.emod_lt_of_pos (n.tdiv 23) (show (0:Int) < 5 by omega)
  have a2 := Int.emod_nonneg (n.tdiv 23) (show (5:Int) ≠ 0 by omega)
  have b1 := Int.emod_lt_of_pos (n.tdiv 23) (show (0:Int) < 200000000001 by omega)
  have b2 := Int.emod_nonneg (n.tdiv 23) (show (200000000001:Int) ≠ 0 by omega)
  have c1 := Int.emod_lt_of_pos n (show (0:Int) < 4001 by omega)
  have c2 := Int.emod_nonneg n (show (4001:Int) ≠ 0 by omega)
  unfold amountF
  by_cases e0 : n.tmod 23 = 20
  · have w := within_ok (n.tdiv 23) 5 (by omega) h
    have w1 : IntKind.i64.wrap (100000000000 - n.tdiv 23 % 5) = 100000000000 - n.tdiv 23 % 5 := wrap_small (by omega) (by omega)
    have w2 : IntKind.i64.wrap (100000000000 - n.tdiv 23 % 5 + 2) = 100000000000 - n.tdiv 23 % 5 + 2 := wrap_small (by omega) (by omega)
    simp [wpk_skip, wpk_seq, k_cond, wpk_block, wpk_exit, wpk_ret, wpk_loop, k_ops, k_draw0, t_nil, t_cons, KT_eq, KD_eq, wpo_nil, k_cons, k_step, mt_some, mtk_some, KO_eq, KP_eq, K_normal, K_ret, K_exit, KB_normal, KB_ret, KB_exit, KL_normal, KL_ret, KL_exit, k_ret, k_normal, stepE, isCall, calleeE, opE, wantE, odE, odS, odL, odSL, fget, fput, initE, keepF, List.map_cons, List.map_nil, binE, intOp, strOp, shOp, unE, eqpE, eqnE, neqB, ressE, resE, packL, packE, flat1, fcells, fillE, setL, cellsOf_bind, cellsO_own, cellsO_ro, lenE_sl, lenE_nils, lenE_sl0, bound, rep, minE, maxE, List.getElem?_cons_zero, List.getElem?_cons_succ, get_lt, set_lt, get_len, get_len_add, set_len, set_len_add, List.append_assoc, List.cons_append, List.nil_append, -getElem?_pos, b23, s23_2, s23_1, e0, hd, w, w1, w2]
  by_cases e1 : n.tmod 23 = 21
  · have w := within_ok (n.tdiv 23) 5 (by omega) h
    have w1 : IntKind.i64.wrap (-100000000000 + n.tdiv 23 % 5) = -100000000000 + n.tdiv 23 % 5 := wrap_small (by omega) (by omega)
    have w2 : IntKind.i64.wrap (-100000000000 + n.tdiv 23 % 5 - 2) = -100000000000 + n.tdiv 23 % 5 - 2 := wrap_small (by omega) (by omega)
    simp [wpk_skip, wpk_seq, k_cond, wpk_block, wpk_exit, wpk_ret, wpk_loop, k_ops, k_draw0, t_nil, t_cons, KT_eq, KD_eq, wpo_nil, k_cons, k_step, mt_some, mtk_some, KO_eq, KP_eq, K_normal, K_ret, K_exit, KB_normal, KB_ret, KB_exit, KL_normal, KL_ret, KL_exit, k_ret, k_normal, stepE, isCall, calleeE, opE, wantE, odE, odS, odL, odSL, fget, fput, initE, keepF, List.map_cons, List.map_nil, binE, intOp, strOp, shOp, unE, eqpE, eqnE, neqB, ressE, resE, packL, packE, flat1, fcells, fillE, setL, cellsOf_bind, cellsO_own, cellsO_ro, lenE_sl, lenE_nils, lenE_sl0, bound, rep, minE, maxE, List.getElem?_cons_zero, List.getElem?_cons_succ, get_lt, set_lt, get_len, get_len_add, set_len, set_len_add, List.append_assoc, List.cons_append, List.nil_append, -getElem?_pos, b23, s23_2, s23_1, e1, hd, w, w1, w2]
  by_cases e2 : n.tmod 23 = 22
  · simp [wpk_skip, wpk_seq, k_cond, wpk_block, wpk_exit, wpk_ret, wpk_loop, k_ops, k_draw0, t_nil, t_cons, KT_eq, KD_eq, wpo_nil, k_cons, k_step, mt_some, mtk_some, KO_eq, KP_eq, K_normal, K_ret, K_exit, KB_normal, KB_ret, KB_exit, KL_normal, KL_ret, KL_exit, k_ret, k_normal, stepE, isCall, calleeE, opE, wantE, odE, odS, odL, odSL, fget, fput, initE, keepF, List.map_cons, List.map_nil, binE, intOp, strOp, shOp, unE, eqpE, eqnE, neqB, ressE, resE, packL, packE, flat1, fcells, fillE, setL, cellsOf_bind, cellsO_own, cellsO_ro, lenE_sl, lenE_nils, lenE_sl0, bound, rep, minE, maxE, List.getElem?_cons_zero, List.getElem?_cons_succ, get_lt, set_lt, get_len, get_len_add, set_len, set_len_add, List.append_assoc, List.cons_append, List.nil_append, -getElem?_pos, b23, s23_2, s23_1, e2]
  by_cases e3 : n.tmod 23 = 19
  · have w := within_ok (n.tdiv 23) 200000000001 (by omega) h
    have w1 : IntKind.i64.wrap (n.tdiv 23 % 200000000001 - 100000000000) = n.tdiv 23 % 200000000001 - 100000000000 := wrap_small (by omega) (by omega)
    simp [wpk_skip, wpk_seq, k_cond, wpk_block, wpk_exit, wpk_ret, wpk_loop, k_ops, k_draw0, t_nil, t_cons, KT_eq, KD_eq, wpo_nil, k_cons, k_step, mt_some, mtk_some, KO_eq, KP_eq, K_normal, K_ret, K_exit, KB_normal, KB_ret, KB_exit, KL_normal, KL_ret, KL_exit, k_ret, k_normal, stepE, isCall, calleeE, opE, wantE, odE, odS, odL, odSL, fget, fput, initE, keepF, List.map_cons, List.map_nil, binE, intOp, strOp, shOp, unE, eqpE, eqnE, neqB, ressE, resE, packL, packE, flat1, fcells, fillE, setL, cellsOf_bind, cellsO_own, cellsO_ro, lenE_sl, lenE_nils, lenE_sl0, bound, rep, minE, maxE, List.getElem?_cons_zero, List.getElem?_cons_succ, get_lt, set_lt, get_len, get_len_add, set_len, set_len_add, List.append_assoc, List.cons_append, List.nil_append, -getElem?_pos, b23, s23_2, s23_1, e3, hd, w, w1]
  · have w := within_ok n 4001 (by omega) h
    have w1 : IntKind.i64.wrap (n % 4001 - 2000) = n % 4001 - 2000 := wrap_small (by omega) (by omega)
    simp [wpk_skip, wpk_seq, k_cond, wpk_block, wpk_exit, wpk_ret, wpk_loop, k_ops, k_draw0, t_nil, t_cons, KT_eq, KD_eq, wpo_nil, k_cons, k_step, mt_some, mtk_some, KO_eq, KP_eq, K_normal, K_ret, K_exit, KB_normal, KB_ret, KB_exit, KL_normal, KL_ret, KL_exit, k_ret, k_normal, stepE, isCall, calleeE, opE, wantE, odE, odS, odL, odSL, fget, fput, initE, keepF, List.map_cons, List.map_nil, binE, intOp, strOp, shOp, unE, eqpE, eqnE, neqB, ressE, resE, packL, packE, flat1, fcells, fillE, setL, cellsOf_bind, cellsO_own, cellsO_ro, lenE_sl, lenE_nils, lenE_sl0, bound, rep, minE, maxE, List.getElem?_cons_zero, List.getElem?_cons_succ, get_lt, set_lt, get_len, get_len_add, set_len, set_len_add, List.append_assoc, List.cons_append, List.nil_append, -getElem?_pos, b23, s23_2, s23_1, e0, e1, e2, e3, w, w1]


def rateT : List Int := [250000, 300000, 190000, 0, 1000000, 333333, 500000, 1, 125000, 999999]
def rateF (n : Int) : Int := if n.tmod 29 = 28 then n else rateT.getD (n % 10).toNat 0
def rateR (n : Int) : List LO := if n.tmod 29 = 28 then [] else [.own 3 (rateT.map (.int .i64))]
theorem rate_ok (n : Int) (h : LH) : callX C 24 [.s (.int .i64 n)] h = some (.s (.int .i64 (rateF n)), h ++ rateR n) := by
  apply callX_wp
  refine WPc.intro (e := e24) rfl (by simp [e24]) ?_
  show WPk C b24 _ _ (KR [.tmp 2] _)
  unfold rateF rateR
  by_cases e0 : n.tmod 29 = 28
  · simp [wpk_skip, wpk_seq, k_cond, wpk_block, wpk_exit, wpk_ret, wpk_loop, k_ops, k_draw0, t_nil, t_cons, KT_eq, KD_eq, wpo_nil, k_cons, k_step, mt_some, mtk_some, KO_eq, KP_eq, K_normal, K_ret, K_exit, KB_normal, KB_ret, KB_exit, KL_normal, KL_ret, KL_exit, k_ret, k_normal, stepE, isCall, calleeE, opE, wantE, odE, odS, odL, odSL, fget, fput, initE, keepF, List.map_cons, List.map_nil, binE, intOp, strOp, shOp, unE, eqpE, eqnE, neqB, ressE, resE, packL, packE, flat1, fcells, fillE, setL, cellsOf_bind, cellsO_own, cellsO_ro, lenE_sl, lenE_nils, lenE_sl0, bound, rep, minE, maxE, List.getElem?_cons_zero, List.getElem?_cons_succ, get_lt, set_lt, get_len, get_len_add, set_len, set_len_add, List.append_assoc, List.cons_append, List.nil_append, -getElem?_pos, b24, s24_2, s24_1, e0]
  · have c1 := Int.emod_lt_of_pos n (show (0:Int) < 10 by omega)
    have c2 := Int.emod_nonneg n (show (10:Int) ≠ 0 by omega)
    have w := fun h => within_ok n 10 (by omega) h
    generalize n % 10 = r at c1 c2 w
    have hr : r = 0 ∨ r = 1 ∨ r = 2 ∨ r = 3 ∨ r = 4 ∨ r = 5 ∨ r = 6 ∨ r = 7 ∨ r = 8 ∨ r = 9 := by omega
    simp [wpk_skip, wpk_seq, k_cond, wpk_block, wpk_exit, wpk_ret, wpk_loop, k_ops, k_draw0, t_nil, t_cons, KT_eq, KD_eq, wpo_nil, k_cons, k_step, mt_some, mtk_some, KO_eq, KP_eq, K_normal, K_ret, K_exit, KB_normal, KB_ret, KB_exit, KL_normal, KL_ret, KL_exit, k_ret, k_normal, stepE, isCall, calleeE, opE, wantE, odE, odS, odL, odSL, fget, fput, initE, keepF, List.map_cons, List.map_nil, binE, intOp, strOp, shOp, unE, eqpE, eqnE, neqB, ressE, resE, packL, packE, flat1, fcells, fillE, setL, cellsOf_bind, cellsO_own, cellsO_ro, lenE_sl, lenE_nils, lenE_sl0, bound, rep, minE, maxE, List.getElem?_cons_zero, List.getElem?_cons_succ, get_lt, set_lt, get_len, get_len_add, set_len, set_len_add, List.append_assoc, List.cons_append, List.nil_append, -getElem?_pos, b24, s24_2, s24_1, e0, w, c2, c1]
    rcases hr with rfl | rfl | rfl | rfl | rfl | rfl | rfl | rfl | rfl | rfl <;> simp [wpk_skip, wpk_seq, k_cond, wpk_block, wpk_exit, wpk_ret, wpk_loop, k_ops, k_draw0, t_nil, t_cons, KT_eq, KD_eq, wpo_nil, k_cons, k_step, mt_some, mtk_some, KO_eq, KP_eq, K_normal, K_ret, K_exit, KB_normal, KB_ret, KB_exit, KL_normal, KL_ret, KL_exit, k_ret, k_normal, stepE, isCall, calleeE, opE, wantE, odE, odS, odL, odSL, fget, fput, initE, keepF, List.map_cons, List.map_nil, binE, intOp, strOp, shOp, unE, eqpE, eqnE, neqB, ressE, resE, packL, packE, flat1, fcells, fillE, setL, cellsOf_bind, cellsO_own, cellsO_ro, lenE_sl, lenE_nils, lenE_sl0, bound, rep, minE, maxE, List.getElem?_cons_zero, List.getElem?_cons_succ, get_lt, set_lt, get_len, get_len_add, set_len, set_len_add, List.append_assoc, List.cons_append, List.nil_append, rateT]
theorem rate_64 {n : Int} (hn : is64 n) : is64 (rateF n) := by
  unfold rateF
  split
  · exact hn
  · have c1 := Int.emod_lt_of_pos n (show (0:Int) < 10 by omega)
    have c2 := Int.emod_nonneg n (show (10:Int) ≠ 0 by omega)
    generalize n % 10 = r at c1 c2
    have hr : r = 0 ∨ r = 1 ∨ r = 2 ∨ r = 3 ∨ r = 4 ∨ r = 5 ∨ r = 6 ∨ r = 7 ∨ r = 8 ∨ r = 9 := by omega
    rcases hr with rfl | rfl | rfl | rfl | rfl | rfl | rfl | rfl | rfl | rfl <;> simp [rateT, is64]


theorem copy_ok {h : LH} {v : SV} {l : List Int} (r : Rd h 3 1 encI v l) (hl : l.length * 8 ≤ 140737488355328) : WPc C 22 [.s v] h fun u h' => Gr h h' ∧ ∃ w, u = .s w ∧ Ow h.length h' 3 encI w l := by
  refine WPc.post fun Ψ hΨ => ?_
  refine WPc.intro (e := e22) rfl (by simp [e22]) ?_
  show WPk C b22 _ _ (KR [.tmp 2] _)
  obtain ⟨w, r', e, ow⟩ := copy_app (y := 8) r (by omega)
  have he := r.elems
  rw [encI_flat] at he
  simp [wpk_skip, wpk_seq, k_cond, wpk_block, wpk_exit, wpk_ret, wpk_loop, k_ops, k_draw0, t_nil, t_cons, KT_eq, KD_eq, wpo_nil, k_cons, k_step, mt_some, mtk_some, KO_eq, KP_eq, K_normal, K_ret, K_exit, KB_normal, KB_ret, KB_exit, KL_normal, KL_ret, KL_exit, k_ret, k_normal, stepE, isCall, calleeE, opE, wantE, odE, odS, odL, odSL, fget, fput, initE, keepF, List.map_cons, List.map_nil, binE, intOp, strOp, shOp, unE, eqpE, eqnE, neqB, ressE, resE, packL, packE, flat1, fcells, fillE, setL, cellsOf_bind, cellsO_own, cellsO_ro, lenE_sl, lenE_nils, lenE_sl0, bound, rep, minE, maxE, List.getElem?_cons_zero, List.getElem?_cons_succ, get_lt, set_lt, get_len, get_len_add, set_len, set_len_add, List.append_assoc, List.cons_append, List.nil_append, -getElem?_pos, b22, s22_1, r.len, he, e]
  exact hΨ _ _ ⟨Gr.self _ _, w, rfl, ow⟩



theorem Rd.take {α : Type} {h : LH} {t z : Nat} {enc : α → List SV} {i p p' o n : Nat} {l : List α} (he : ∀ a, (enc a).length = z) (r : Rd h t z enc (.sl i p o n) l) {m : Nat} (hm : m ≤ l.length) : Rd h t z enc (.sl i p' o m) (l.take m) := by
  rcases r with ⟨_, e | ⟨_, _, _, e⟩⟩ | ⟨i', q, o', ob, vs, r1, r2, r3, r4, r5⟩
  · cases e
  · cases e
  · simp only [SV.sl.injEq] at r1
    obtain ⟨rfl, rfl, rfl, rfl⟩ := r1
    have hl : (l.take m).length = m := by simp; omega
    have hz : m * z ≤ l.length * z := Nat.mul_le_mul_right _ hm
    refine .inr ⟨i, p', o, ob, vs, by rw [hl], r2, r3, ?_, ?_⟩
    · rw [hl, Nat.add_mul]; rw [Nat.add_mul] at r4; omega
    · rw [hl, ← flat_take he, ← r5, List.take_take, Nat.min_eq_left hz]

theorem cut_ok {h : LH} {v : SV} {l : List Int} (hv : v = .nils ∨ ∃ j n, v = .sl j 0 0 n) (r : Rd h 3 1 encI v l) (n : Nat) (hn : n < 1000) : WPc C 19 [.s v, .s (.int .i64 n)] h fun u h' => Gr h h' ∧ ∃ w, u = .s w ∧ Ow h.length h' 3 encI w (l.take n) := by
  refine WPc.post fun Ψ hΨ => ?_
  refine WPc.intro (e := e19) rfl (by simp [e19]) ?_
  show WPk C b19 _ _ (KR [.tmp 4] _)
  have hmn : (if n < l.length then (n : Int) else (l.length : Int)) = ((min l.length n : Nat) : Int) := by split <;> omega
  have rl := r.len
  have ht : l.take (min l.length n) = l.take n := by
    by_cases c : l.length ≤ n
    · rw [Nat.min_eq_left c, List.take_length, List.take_of_length_le c]
    · rw [Nat.min_eq_right (by omega)]
  rcases hv with rfl | ⟨j, n', rfl⟩
  · have hl : l = [] := by
      have := rl
      simp only [lenE, Option.some.injEq] at this
      exact List.eq_nil_of_length_eq_zero this.symm
    subst hl
    have hmn : (if (n : Int) < 0 then (n : Int) else 0) = 0 := by split <;> omega
    simp [wpk_skip, wpk_seq, k_cond, wpk_block, wpk_exit, wpk_ret, wpk_loop, k_ops, k_draw0, t_nil, t_cons, KT_eq, KD_eq, wpo_nil, k_cons, k_step, mt_some, mtk_some, KO_eq, KP_eq, K_normal, K_ret, K_exit, KB_normal, KB_ret, KB_exit, KL_normal, KL_ret, KL_exit, k_ret, k_normal, stepE, isCall, calleeE, opE, wantE, odE, odS, odL, odSL, fget, fput, initE, keepF, List.map_cons, List.map_nil, binE, intOp, strOp, shOp, unE, eqpE, eqnE, neqB, ressE, resE, packL, packE, flat1, fcells, fillE, setL, cellsOf_bind, cellsO_own, cellsO_ro, lenE_sl, lenE_nils, lenE_sl0, bound, rep, minE, maxE, List.getElem?_cons_zero, List.getElem?_cons_succ, get_lt, set_lt, get_len, get_len_add, set_len, set_len_add, List.append_assoc, List.cons_append, List.nil_append, -getElem?_pos, b19, s19_1, hmn]
    refine WPc.go (copy_ok r (by simp)) ?_
    rintro _ h1 ⟨g1, w, rfl, ow⟩
    simp [wpk_skip, wpk_seq, k_cond, wpk_block, wpk_exit, wpk_ret, wpk_loop, k_ops, k_draw0, t_nil, t_cons, KT_eq, KD_eq, wpo_nil, k_cons, k_step, mt_some, mtk_some, KO_eq, KP_eq, K_normal, K_ret, K_exit, KB_normal, KB_ret, KB_exit, KL_normal, KL_ret, KL_exit, k_ret, k_normal, stepE, isCall, calleeE, opE, wantE, odE, odS, odL, odSL, fget, fput, initE, keepF, List.map_cons, List.map_nil, binE, intOp, strOp, shOp, unE, eqpE, eqnE, neqB, ressE, resE, packL, packE, flat1, fcells, fillE, setL, cellsOf_bind, cellsO_own, cellsO_ro, lenE_sl, lenE_nils, lenE_sl0, bound, rep, minE, maxE, List.getElem?_cons_zero, List.getElem?_cons_succ, get_lt, set_lt, get_len, get_len_add, set_len, set_len_add, List.append_assoc, List.cons_append, List.nil_append, -getElem?_pos, ]
    exact hΨ _ _ ⟨g1, w, rfl, by simpa using ow⟩
  · have hl : n' = l.length := by simpa [lenE] using rl
    subst hl
    have hc : ∃ q, cellsOf h j = some (3, q) := by
      rcases r with ⟨_, e | ⟨_, _, _, e⟩⟩ | ⟨i', q, o', ob, vs, r1, r2, r3, r4, r5⟩
      · cases e
      · cases e
      · simp only [SV.sl.injEq] at r1
        obtain ⟨rfl, rfl, rfl, -⟩ := r1
        exact ⟨vs, by rw [cellsOf_bind, r2, Option.bind_some, r3]⟩
    obtain ⟨q, hq⟩ := hc
    rw [cellsOf_bind] at hq
    have hle : min l.length n ≤ l.length := Nat.min_le_left _ _
    have r' := Rd.take (p' := 0) encI_len r hle
    rw [ht] at r'
    obtain ⟨m, hm⟩ : ∃ m, m = min l.length n := ⟨_, rfl⟩
    rw [← hm] at hmn hle r'
    simp [wpk_skip, wpk_seq, k_cond, wpk_block, wpk_exit, wpk_ret, wpk_loop, k_ops, k_draw0, t_nil, t_cons, KT_eq, KD_eq, wpo_nil, k_cons, k_step, mt_some, mtk_some, KO_eq, KP_eq, K_normal, K_ret, K_exit, KB_normal, KB_ret, KB_exit, KL_normal, KL_ret, KL_exit, k_ret, k_normal, stepE, isCall, calleeE, opE, wantE, odE, odS, odL, odSL, fget, fput, initE, keepF, List.map_cons, List.map_nil, binE, intOp, strOp, shOp, unE, eqpE, eqnE, neqB, ressE, resE, packL, packE, flat1, fcells, fillE, setL, cellsOf_bind, cellsO_own, cellsO_ro, lenE_sl, lenE_nils, lenE_sl0, bound, rep, minE, maxE, List.getElem?_cons_zero, List.getElem?_cons_succ, get_lt, set_lt, get_len, get_len_add, set_len, set_len_add, List.append_assoc, List.cons_append, List.nil_append, -getElem?_pos, b19, s19_1, rl, hmn, hq, hle]
    refine WPc.go (copy_ok r' (by simp; omega)) ?_
    rintro _ h1 ⟨g1, w, rfl, ow⟩
    simp [wpk_skip, wpk_seq, k_cond, wpk_block, wpk_exit, wpk_ret, wpk_loop, k_ops, k_draw0, t_nil, t_cons, KT_eq, KD_eq, wpo_nil, k_cons, k_step, mt_some, mtk_some, KO_eq, KP_eq, K_normal, K_ret, K_exit, KB_normal, KB_ret, KB_exit, KL_normal, KL_ret, KL_exit, k_ret, k_normal, stepE, isCall, calleeE, opE, wantE, odE, odS, odL, odSL, fget, fput, initE, keepF, List.map_cons, List.map_nil, binE, intOp, strOp, shOp, unE, eqpE, eqnE, neqB, ressE, resE, packL, packE, flat1, fcells, fillE, setL, cellsOf_bind, cellsO_own, cellsO_ro, lenE_sl, lenE_nils, lenE_sl0, bound, rep, minE, maxE, List.getElem?_cons_zero, List.getElem?_cons_succ, get_lt, set_lt, get_len, get_len_add, set_len, set_len_add, List.append_assoc, List.cons_append, List.nil_append, -getElem?_pos, ]
    exact hΨ _ _ ⟨g1, w, rfl, ow⟩

def money (n : Int) : Bool := decide (-100000000000 ≤ n ∧ n ≤ 100000000000)
def sumGo : Int → List Int → Int × Bool
  | n, [] => if money n then (n, true) else (0, false)
  | n, x :: r => if money x then sumGo (n + x) r else (0, false)
theorem sumGo_all : ∀ (l : List Int) (n : Int), (∀ x ∈ l, money x = true) → sumGo n l = if money (n + l.sum) then (n + l.sum, true) else (0, false)
  | [], n, _ => by simp [sumGo]
  | x :: r, n, h => by
    unfold sumGo
    rw [h x List.mem_cons_self, if_pos rfl, sumGo_all r (n + x) fun y hy => h y (List.mem_cons_of_mem _ hy), List.sum_cons, Int.add_assoc]
theorem sumGo_bad : ∀ (l : List Int) (n : Int) (x : Int), x ∈ l → money x = false → sumGo n l = (0, false)
  | y :: r, n, x, h, hx => by
    unfold sumGo
    rcases List.mem_cons.1 h with rfl | h
    · rw [hx]; rfl
    · split
      · exact sumGo_bad r _ x h hx
      · rfl
theorem sum_ok {h : LH} {v : SV} {l : List Int} (r : Rd h 3 1 encI v l) (hl : l.length < 1000) : callX C 20 [.s v] h = some (.tup [.s (.int .i64 (sumGo 0 l).1), .s (.bool (sumGo 0 l).2)], h) := by
  apply callX_wp
  refine WPc.post fun Ψ hΨ => ?_
  refine WPc.intro (e := e20) rfl (by simp [e20]) ?_
  show WPk C b20 _ _ (KR [.tmp 2, .tmp 3] _)
  simp [wpk_skip, wpk_seq, k_cond, wpk_block, wpk_exit, wpk_ret, wpk_loop, k_ops, k_draw0, t_nil, t_cons, KT_eq, KD_eq, wpo_nil, k_cons, k_step, mt_some, mtk_some, KO_eq, KP_eq, K_normal, K_ret, K_exit, KB_normal, KB_ret, KB_exit, KL_normal, KL_ret, KL_exit, k_ret, k_normal, stepE, isCall, calleeE, opE, wantE, odE, odS, odL, odSL, fget, fput, initE, keepF, List.map_cons, List.map_nil, binE, intOp, strOp, shOp, unE, eqpE, eqnE, neqB, ressE, resE, packL, packE, flat1, fcells, fillE, setL, cellsOf_bind, cellsO_own, cellsO_ro, lenE_sl, lenE_nils, lenE_sl0, bound, rep, minE, maxE, List.getElem?_cons_zero, List.getElem?_cons_succ, get_lt, set_lt, get_len, get_len_add, set_len, set_len_add, List.append_assoc, List.cons_append, List.nil_append, -getElem?_pos, b20, s20_4, s20_3, s20_2, s20_1, r.len]
  obtain ⟨T, hT⟩ : ∃ T, T = sumGo 0 l := ⟨_, rfl⟩
  rw [← hT] at hΨ
  refine WPl.inv2 (fun n fr h' => h' = h ∧ ∃ (k : Nat) (m : Int), k ≤ l.length ∧ n = l.length - k ∧ -100000000000 * (k : Int) ≤ m ∧ m ≤ 100000000000 * k ∧ sumGo m (l.drop k) = T ∧
    fr = [(4, some (.s (.int .i64 m))), (7, some (.s v)), (8, some (.s (.int .i64 l.length))), (9, some (.s (.int .i64 k)))]) ?_ _ _ _ ⟨rfl, 0, 0, Nat.zero_le _, rfl, by omega, by omega, hT.symm, rfl⟩
  rintro I hI n fr h' ⟨rfl, k, m, hk, rfl, m0, m1, he, rfl⟩
  refine ⟨by simp [keepF, fget], ?_⟩
  by_cases hlt : k < l.length
  · obtain ⟨i, p, o, ob, vs, rfl, q2, q3, q4⟩ := r.int hlt
    have w3 : IntKind.i64.wrap ((k : Int) + 1) = ((k + 1 : Nat) : Int) := wrap_small (by omega) (by omega)
    rw [List.drop_eq_getElem_cons hlt] at he
    simp only [sumGo] at he
    generalize l[k] = x at *
    have r2 := fun h => money_ok x h
    unfold money at he
    by_cases hx : -100000000000 ≤ x ∧ x ≤ 100000000000
    · rw [decide_eq_true hx] at r2 he
      simp only [if_true] at he
      have w2 : IntKind.i64.wrap (m + x) = m + x := wrap_small (by omega) (by omega)
      simp [wpk_skip, wpk_seq, k_cond, wpk_block, wpk_exit, wpk_ret, wpk_loop, k_ops, k_draw0, t_nil, t_cons, KT_eq, KD_eq, wpo_nil, k_cons, k_step, mt_some, mtk_some, KO_eq, KP_eq, K_normal, K_ret, K_exit, KB_normal, KB_ret, KB_exit, KL_normal, KL_ret, KL_exit, k_ret, k_normal, stepE, isCall, calleeE, opE, wantE, odE, odS, odL, odSL, fget, fput, initE, keepF, List.map_cons, List.map_nil, binE, intOp, strOp, shOp, unE, eqpE, eqnE, neqB, ressE, resE, packL, packE, flat1, fcells, fillE, setL, cellsOf_bind, cellsO_own, cellsO_ro, lenE_sl, lenE_nils, lenE_sl0, bound, rep, minE, maxE, List.getElem?_cons_zero, List.getElem?_cons_succ, get_lt, set_lt, get_len, get_len_add, set_len, set_len_add, List.append_assoc, List.cons_append, List.nil_append, -getElem?_pos, l20_0_2, l20_0_1, l20_0, hlt, q2, q3, q4, r2, w2, w3]
      exact ⟨_, by omega, hI _ _ _ ⟨rfl, k + 1, m + x, hlt, rfl, by omega, by omega, he, rfl⟩⟩
    · rw [decide_eq_false hx] at r2 he
      simp only [Bool.false_eq_true, if_false] at he
      simp [wpk_skip, wpk_seq, k_cond, wpk_block, wpk_exit, wpk_ret, wpk_loop, k_ops, k_draw0, t_nil, t_cons, KT_eq, KD_eq, wpo_nil, k_cons, k_step, mt_some, mtk_some, KO_eq, KP_eq, K_normal, K_ret, K_exit, KB_normal, KB_ret, KB_exit, KL_normal, KL_ret, KL_exit, k_ret, k_normal, stepE, isCall, calleeE, opE, wantE, odE, odS, odL, odSL, fget, fput, initE, keepF, List.map_cons, List.map_nil, binE, intOp, strOp, shOp, unE, eqpE, eqnE, neqB, ressE, resE, packL, packE, flat1, fcells, fillE, setL, cellsOf_bind, cellsO_own, cellsO_ro, lenE_sl, lenE_nils, lenE_sl0, bound, rep, minE, maxE, List.getElem?_cons_zero, List.getElem?_cons_succ, get_lt, set_lt, get_len, get_len_add, set_len, set_len_add, List.append_assoc, List.cons_append, List.nil_append, -getElem?_pos, l20_0_2, l20_0_1, l20_0, hlt, q2, q3, q4, r2]
      exact hΨ _ _ ⟨by rw [← he], rfl⟩
  · obtain rfl : k = l.length := by omega
    rw [List.drop_eq_nil_of_le (Nat.le_refl _)] at he
    simp only [sumGo] at he
    have r2 := fun h => money_ok m h
    unfold money at he
    by_cases hx : -100000000000 ≤ m ∧ m ≤ 100000000000
    · rw [decide_eq_true hx] at r2 he
      simp only [if_true] at he
      simp [wpk_skip, wpk_seq, k_cond, wpk_block, wpk_exit, wpk_ret, wpk_loop, k_ops, k_draw0, t_nil, t_cons, KT_eq, KD_eq, wpo_nil, k_cons, k_step, mt_some, mtk_some, KO_eq, KP_eq, K_normal, K_ret, K_exit, KB_normal, KB_ret, KB_exit, KL_normal, KL_ret, KL_exit, k_ret, k_normal, stepE, isCall, calleeE, opE, wantE, odE, odS, odL, odSL, fget, fput, initE, keepF, List.map_cons, List.map_nil, binE, intOp, strOp, shOp, unE, eqpE, eqnE, neqB, ressE, resE, packL, packE, flat1, fcells, fillE, setL, cellsOf_bind, cellsO_own, cellsO_ro, lenE_sl, lenE_nils, lenE_sl0, bound, rep, minE, maxE, List.getElem?_cons_zero, List.getElem?_cons_succ, get_lt, set_lt, get_len, get_len_add, set_len, set_len_add, List.append_assoc, List.cons_append, List.nil_append, -getElem?_pos, l20_0_2, l20_0_1, l20_0, hlt, r2]
      exact hΨ _ _ ⟨by rw [← he], rfl⟩
    · rw [decide_eq_false hx] at r2 he
      simp only [Bool.false_eq_true, if_false] at he
      simp [wpk_skip, wpk_seq, k_cond, wpk_block, wpk_exit, wpk_ret, wpk_loop, k_ops, k_draw0, t_nil, t_cons, KT_eq, KD_eq, wpo_nil, k_cons, k_step, mt_some, mtk_some, KO_eq, KP_eq, K_normal, K_ret, K_exit, KB_normal, KB_ret, KB_exit, KL_normal, KL_ret, KL_exit, k_ret, k_normal, stepE, isCall, calleeE, opE, wantE, odE, odS, odL, odSL, fget, fput, initE, keepF, List.map_cons, List.map_nil, binE, intOp, strOp, shOp, unE, eqpE, eqnE, neqB, ressE, resE, packL, packE, flat1, fcells, fillE, setL, cellsOf_bind, cellsO_own, cellsO_ro, lenE_sl, lenE_nils, lenE_sl0, bound, rep, minE, maxE, List.getElem?_cons_zero, List.getElem?_cons_succ, get_lt, set_lt, get_len, get_len_add, set_len, set_len_add, List.append_assoc, List.cons_append, List.nil_append, -getElem?_pos, l20_0_2, l20_0_1, l20_0, hlt, r2]
      exact hΨ _ _ ⟨by rw [← he], rfl⟩

theorem rsum_ok {h : LH} {v : SV} {l : List Int} (r : Rd h 3 1 encI v l) (hl : l.length < 1000) : callX C 29 [.s v] h = some (.tup [.s (.int .i64 (sumGo 0 l).1), .s (.bool (sumGo 0 l).2)], h) := by
  apply callX_wp
  refine WPc.post fun Ψ hΨ => ?_
  refine WPc.intro (e := e29) rfl (by simp [e29]) ?_
  show WPk C b29 _ _ (KR [.tmp 2, .tmp 3] _)
  simp [wpk_skip, wpk_seq, k_cond, wpk_block, wpk_exit, wpk_ret, wpk_loop, k_ops, k_draw0, t_nil, t_cons, KT_eq, KD_eq, wpo_nil, k_cons, k_step, mt_some, mtk_some, KO_eq, KP_eq, K_normal, K_ret, K_exit, KB_normal, KB_ret, KB_exit, KL_normal, KL_ret, KL_exit, k_ret, k_normal, stepE, isCall, calleeE, opE, wantE, odE, odS, odL, odSL, fget, fput, initE, keepF, List.map_cons, List.map_nil, binE, intOp, strOp, shOp, unE, eqpE, eqnE, neqB, ressE, resE, packL, packE, flat1, fcells, fillE, setL, cellsOf_bind, cellsO_own, cellsO_ro, lenE_sl, lenE_nils, lenE_sl0, bound, rep, minE, maxE, List.getElem?_cons_zero, List.getElem?_cons_succ, get_lt, set_lt, get_len, get_len_add, set_len, set_len_add, List.append_assoc, List.cons_append, List.nil_append, -getElem?_pos, b29, s29_4, s29_3, s29_2, s29_1, r.len]
  obtain ⟨T, hT⟩ : ∃ T, T = sumGo 0 l := ⟨_, rfl⟩
  rw [← hT] at hΨ
  refine WPl.inv2 (fun n fr h' => h' = h ∧ ∃ (k : Nat) (m : Int), k ≤ l.length ∧ n = l.length - k ∧ -100000000000 * (k : Int) ≤ m ∧ m ≤ 100000000000 * k ∧ sumGo m (l.drop k) = T ∧
    fr = [(4, some (.s (.int .i64 m))), (7, some (.s v)), (8, some (.s (.int .i64 l.length))), (9, some (.s (.int .i64 k)))]) ?_ _ _ _ ⟨rfl, 0, 0, Nat.zero_le _, rfl, by omega, by omega, hT.symm, rfl⟩
  rintro I hI n fr h' ⟨rfl, k, m, hk, rfl, m0, m1, he, rfl⟩
  refine ⟨by simp [keepF, fget], ?_⟩
  by_cases hlt : k < l.length
  · obtain ⟨i, p, o, ob, vs, rfl, q2, q3, q4⟩ := r.int hlt
    have w3 : IntKind.i64.wrap ((k : Int) + 1) = ((k + 1 : Nat) : Int) := wrap_small (by omega) (by omega)
    rw [List.drop_eq_getElem_cons hlt] at he
    simp only [sumGo] at he
    generalize l[k] = x at *
    have r2 := fun h => rmoney_ok x h
    unfold money at he
    by_cases hx : -100000000000 ≤ x ∧ x ≤ 100000000000
    · rw [decide_eq_true hx] at r2 he
      simp only [if_true] at he
      have w2 : IntKind.i64.wrap (m + x) = m + x := wrap_small (by omega) (by omega)
      simp [wpk_skip, wpk_seq, k_cond, wpk_block, wpk_exit, wpk_ret, wpk_loop, k_ops, k_draw0, t_nil, t_cons, KT_eq, KD_eq, wpo_nil, k_cons, k_step, mt_some, mtk_some, KO_eq, KP_eq, K_normal, K_ret, K_exit, KB_normal, KB_ret, KB_exit, KL_normal, KL_ret, KL_exit, k_ret, k_normal, stepE, isCall, calleeE, opE, wantE, odE, odS, odL, odSL, fget, fput, initE, keepF, List.map_cons, List.map_nil, binE, intOp, strOp, shOp, unE, eqpE, eqnE, neqB, ressE, resE, packL, packE, flat1, fcells, fillE, setL, cellsOf_bind, cellsO_own, cellsO_ro, lenE_sl, lenE_nils, lenE_sl0, bound, rep, minE, maxE, List.getElem?_cons_zero, List.getElem?_cons_succ, get_lt, set_lt, get_len, get_len_add, set_len, set_len_add, List.append_assoc, List.cons_append, List.nil_append, -getElem?_pos, l29_0_2, l29_0_1, l29_0, hlt, q2, q3, q4, r2, w2, w3]
      exact ⟨_, by omega, hI _ _ _ ⟨rfl, k + 1, m + x, hlt, rfl, by omega, by omega, he, rfl⟩⟩
    · rw [decide_eq_false hx] at r2 he
      simp only [Bool.false_eq_true, if_false] at he
      simp [wpk_skip, wpk_seq, k_cond, wpk_block, wpk_exit, wpk_ret, wpk_loop, k_ops, k_draw0, t_nil, t_cons, KT_eq, KD_eq, wpo_nil, k_cons, k_step, mt_some, mtk_some, KO_eq, KP_eq, K_normal, K_ret, K_exit, KB_normal, KB_ret, KB_exit, KL_normal, KL_ret, KL_exit, k_ret, k_normal, stepE, isCall, calleeE, opE, wantE, odE, odS, odL, odSL, fget, fput, initE, keepF, List.map_cons, List.map_nil, binE, intOp, strOp, shOp, unE, eqpE, eqnE, neqB, ressE, resE, packL, packE, flat1, fcells, fillE, setL, cellsOf_bind, cellsO_own, cellsO_ro, lenE_sl, lenE_nils, lenE_sl0, bound, rep, minE, maxE, List.getElem?_cons_zero, List.getElem?_cons_succ, get_lt, set_lt, get_len, get_len_add, set_len, set_len_add, List.append_assoc, List.cons_append, List.nil_append, -getElem?_pos, l29_0_2, l29_0_1, l29_0, hlt, q2, q3, q4, r2]
      exact hΨ _ _ ⟨by rw [← he], rfl⟩
  · obtain rfl : k = l.length := by omega
    rw [List.drop_eq_nil_of_le (Nat.le_refl _)] at he
    simp only [sumGo] at he
    have r2 := fun h => rmoney_ok m h
    unfold money at he
    by_cases hx : -100000000000 ≤ m ∧ m ≤ 100000000000
    · rw [decide_eq_true hx] at r2 he
      simp only [if_true] at he
      simp [wpk_skip, wpk_seq, k_cond, wpk_block, wpk_exit, wpk_ret, wpk_loop, k_ops, k_draw0, t_nil, t_cons, KT_eq, KD_eq, wpo_nil, k_cons, k_step, mt_some, mtk_some, KO_eq, KP_eq, K_normal, K_ret, K_exit, KB_normal, KB_ret, KB_exit, KL_normal, KL_ret, KL_exit, k_ret, k_normal, stepE, isCall, calleeE, opE, wantE, odE, odS, odL, odSL, fget, fput, initE, keepF, List.map_cons, List.map_nil, binE, intOp, strOp, shOp, unE, eqpE, eqnE, neqB, ressE, resE, packL, packE, flat1, fcells, fillE, setL, cellsOf_bind, cellsO_own, cellsO_ro, lenE_sl, lenE_nils, lenE_sl0, bound, rep, minE, maxE, List.getElem?_cons_zero, List.getElem?_cons_succ, get_lt, set_lt, get_len, get_len_add, set_len, set_len_add, List.append_assoc, List.cons_append, List.nil_append, -getElem?_pos, l29_0_2, l29_0_1, l29_0, hlt, r2]
      exact hΨ _ _ ⟨by rw [← he], rfl⟩
    · rw [decide_eq_false hx] at r2 he
      simp only [Bool.false_eq_true, if_false] at he
      simp [wpk_skip, wpk_seq, k_cond, wpk_block, wpk_exit, wpk_ret, wpk_loop, k_ops, k_draw0, t_nil, t_cons, KT_eq, KD_eq, wpo_nil, k_cons, k_step, mt_some, mtk_some, KO_eq, KP_eq, K_normal, K_ret, K_exit, KB_normal, KB_ret, KB_exit, KL_normal, KL_ret, KL_exit, k_ret, k_normal, stepE, isCall, calleeE, opE, wantE, odE, odS, odL, odSL, fget, fput, initE, keepF, List.map_cons, List.map_nil, binE, intOp, strOp, shOp, unE, eqpE, eqnE, neqB, ressE, resE, packL, packE, flat1, fcells, fillE, setL, cellsOf_bind, cellsO_own, cellsO_ro, lenE_sl, lenE_nils, lenE_sl0, bound, rep, minE, maxE, List.getElem?_cons_zero, List.getElem?_cons_succ, get_lt, set_lt, get_len, get_len_add, set_len, set_len_add, List.append_assoc, List.cons_append, List.nil_append, -getElem?_pos, l29_0_2, l29_0_1, l29_0, hlt, r2]
      exact hΨ _ _ ⟨by rw [← he], rfl⟩


theorem wakes_ok (h : LH) : callX C 15 [] h = some (.s (.bool true), h) := by
  apply callX_wp
  refine WPc.intro (e := e15) rfl (by simp [e15]) ?_
  show WPk C b15 _ _ (KR [.tmp 0] _)
  have a := of_ok (n := 5) (r := 300000) (by unfold ofOk; omega) h
  have b := of_ok (n := -5) (r := 300000) (by unfold ofOk; omega) h
  rw [show ofF 5 300000 = 2 by decide] at a
  rw [show ofF (-5) 300000 = -2 by decide] at b
  simp [wpk_skip, wpk_seq, k_cond, wpk_block, wpk_exit, wpk_ret, wpk_loop, k_ops, k_draw0, t_nil, t_cons, KT_eq, KD_eq, wpo_nil, k_cons, k_step, mt_some, mtk_some, KO_eq, KP_eq, K_normal, K_ret, K_exit, KB_normal, KB_ret, KB_exit, KL_normal, KL_ret, KL_exit, k_ret, k_normal, stepE, isCall, calleeE, opE, wantE, odE, odS, odL, odSL, fget, fput, initE, keepF, List.map_cons, List.map_nil, binE, intOp, strOp, shOp, unE, eqpE, eqnE, neqB, ressE, resE, packL, packE, flat1, fcells, fillE, setL, cellsOf_bind, cellsO_own, cellsO_ro, lenE_sl, lenE_nils, lenE_sl0, bound, rep, minE, maxE, List.getElem?_cons_zero, List.getElem?_cons_succ, get_lt, set_lt, get_len, get_len_add, set_len, set_len_add, List.append_assoc, List.cons_append, List.nil_append, -getElem?_pos, b15, s15_3, s15_2, s15_1, a, b]
end Go.Proofs.Ytalelfjjigfpeaa.Ev.CQ
