/- Periods and their texts on the small machine. -/
import Derived.Test.YtejoijjmlglhfaaDoorCodeP
set_option linter.unusedSimpArgs false
set_option linter.unusedVariables false
namespace Go.Proofs.YtejoijjmlglhfaaDoor.Ev.CP
open Go

theorem within_ok (v n : Int) (hn : 1 ≤ n ∧ n ≤ 1000000000000) (h : LH) : callX C 7 [.s (.int .i64 v), .s (.int .i64 n)] h = some (.s (.int .i64 (v % n)), h) := by
  apply callX_wp
  refine WPc.intro (e := e7) rfl (by simp [e7]) ?_
  show WPk C b7 _ _ (KR [.tmp 4] _)
  have h1 : ¬ (n < 1) := by omega
  have h2 : ¬ (n = 0) := by omega
  have q1 := Int.tmod_lt_of_pos v (show 0 < n by omega)
  have q2 := Int.lt_tmod_of_pos v (show 0 < n by omega)
  have key : v.tmod n = if v.tmod n < 0 then v % n - n else v % n := by
    have e : v % n = (v.tmod n) % n := by
      have h := Int.mul_tdiv_add_tmod v n
      calc v % n = (n * v.tdiv n + v.tmod n) % n := by rw [h]
        _ = (v.tmod n) % n := by rw [Int.add_comm, Int.add_mul_emod_self_left]
    split
    · have : (v.tmod n) % n = v.tmod n + n := by
        rw [← Int.add_emod_right, Int.emod_eq_of_lt (by omega) (by omega)]
      omega
    · rw [e, Int.emod_eq_of_lt (by omega) (by omega)]
  have hlt := Int.emod_lt_of_pos v (show 0 < n by omega)
  have hge := Int.emod_nonneg v (show n ≠ 0 by omega)
  by_cases hk : v.tmod n < 0
  · rw [if_pos hk] at key
    have hw : IntKind.i64.wrap (v.tmod n + n) = v % n := by rw [wrap_small (by omega) (by omega)]; omega
    simp [wpk_skip, wpk_seq, k_cond, wpk_block, wpk_exit, wpk_ret, wpk_loop, k_ops, k_draw0, t_nil, t_cons, KT_eq, KD_eq, wpo_nil, k_cons, k_step, mt_some, mtk_some, KO_eq, KP_eq, K_normal, K_ret, K_exit, KB_normal, KB_ret, KB_exit, KL_normal, KL_ret, KL_exit, k_ret, k_normal, stepE, isCall, calleeE, opE, wantE, odE, odS, odL, odSL, fget, fput, initE, keepF, List.map_cons, List.map_nil, binE, intOp, strOp, shOp, unE, eqpE, eqnE, neqB, ressE, resE, packL, packE, flat1, fcells, fillE, setL, cellsOf_bind, cellsO_own, cellsO_ro, lenE_sl, lenE_nils, lenE_sl0, bound, rep, minE, maxE, List.getElem?_cons_zero, List.getElem?_cons_succ, get_lt, set_lt, get_len, get_len_add, set_len, set_len_add, List.append_assoc, List.cons_append, List.nil_append, -getElem?_pos, b7, s7_4, s7_3, s7_2, s7_1, h1, h2, hk, hw]
  · rw [if_neg hk] at key
    simp [wpk_skip, wpk_seq, k_cond, wpk_block, wpk_exit, wpk_ret, wpk_loop, k_ops, k_draw0, t_nil, t_cons, KT_eq, KD_eq, wpo_nil, k_cons, k_step, mt_some, mtk_some, KO_eq, KP_eq, K_normal, K_ret, K_exit, KB_normal, KB_ret, KB_exit, KL_normal, KL_ret, KL_exit, k_ret, k_normal, stepE, isCall, calleeE, opE, wantE, odE, odS, odL, odSL, fget, fput, initE, keepF, List.map_cons, List.map_nil, binE, intOp, strOp, shOp, unE, eqpE, eqnE, neqB, ressE, resE, packL, packE, flat1, fcells, fillE, setL, cellsOf_bind, cellsO_own, cellsO_ro, lenE_sl, lenE_nils, lenE_sl0, bound, rep, minE, maxE, List.getElem?_cons_zero, List.getElem?_cons_succ, get_lt, set_lt, get_len, get_len_add, set_len, set_len_add, List.append_assoc, List.cons_append, List.nil_append, -getElem?_pos, b7, s7_4, s7_3, s7_2, s7_1, h1, h2, hk]
    exact key



theorem itoa_call {n : Int} (h1 : -9223372036854775808 ≤ n ∧ n ≤ 9223372036854775807) (h : LH) : callX C 18 [.s (.int .i64 n)] h = some (.s (.str ⟨(Lib.itoa n).toArray⟩), h) := by
  refine callX_intro (e := e18) rfl (by simp [e18]) ?_
  unfold bodyX
  simp only [e18, codeL, extE, initE, argsF, fget, if_true, Option.map_some, Option.bind_some, gItoa, h1, and_self, List.length_singleton, Nat.le_refl]
  simp [ressE, resE, initE, fget, packL, flat1, packE, List.range_succ]

/-! ### The texts -/
def dg (k : Nat) : UInt8 := UInt8.ofNat (48 + k)
def txtL (p : Nat) : List UInt8 := [50, 48, dg (p / 40), dg (p / 4 % 10), 113, dg (1 + p % 4)]
def txt (p : Nat) : ByteArray := ⟨(txtL p).toArray⟩
theorem itoa_year {y : Nat} (h : y < 100) : Lib.itoa ((2000 + y : Nat) : Int) = [50, 48, dg (y / 10), dg (y % 10)] := by
  unfold Lib.itoa
  rw [if_neg (by omega), Int.toNat_natCast, Lib.decDigits, dif_neg (by omega), Lib.decDigits, dif_neg (by omega), Lib.decDigits, dif_neg (by omega), Lib.decDigits, dif_pos (by omega)]
  have e1 : (2000 + y) / 10 / 10 / 10 = 2 := by omega
  have e2 : (2000 + y) / 10 / 10 % 10 = 0 := by omega
  have e3 : (2000 + y) / 10 % 10 = y / 10 := by omega
  have e4 : (2000 + y) % 10 = y % 10 := by omega
  rw [e1, e2, e3, e4]
  rfl
theorem itoa_one {q : Nat} (h : q < 10) : Lib.itoa ((q : Nat) : Int) = [dg q] := by
  unfold Lib.itoa
  rw [if_neg (by omega), Int.toNat_natCast, Lib.decDigits, dif_pos (by omega)]
  rfl
theorem txt_app {p : Nat} (h : p < 400) : (⟨(Lib.itoa ((2000 + p / 4 : Nat) : Int)).toArray⟩ : ByteArray) ++ ⟨#[113]⟩ ++ ⟨(Lib.itoa ((1 + p % 4 : Nat) : Int)).toArray⟩ = txt p := by
  rw [itoa_year (by omega), itoa_one (by omega)]
  apply ByteArray.ext
  simp only [ByteArray.data_append]
  have : p / 4 / 10 = p / 40 := by omega
  rw [this]
  simp [txt, txtL]

theorem right_ok (p : Int) (h : LH) : callX C 12 [.s (.int .i64 p)] h = some (.s (.bool (decide (0 ≤ p ∧ p ≤ 399))), h) := by
  apply callX_wp
  refine WPc.intro (e := e12) rfl (by simp [e12]) ?_
  show WPk C b12 _ _ (KR [.tmp 2] _)
  by_cases h0 : p ≥ 0
  · simp [wpk_skip, wpk_seq, k_cond, wpk_block, wpk_exit, wpk_ret, wpk_loop, k_ops, k_draw0, t_nil, t_cons, KT_eq, KD_eq, wpo_nil, k_cons, k_step, mt_some, mtk_some, KO_eq, KP_eq, K_normal, K_ret, K_exit, KB_normal, KB_ret, KB_exit, KL_normal, KL_ret, KL_exit, k_ret, k_normal, stepE, isCall, calleeE, opE, wantE, odE, odS, odL, odSL, fget, fput, initE, keepF, List.map_cons, List.map_nil, binE, intOp, strOp, shOp, unE, eqpE, eqnE, neqB, ressE, resE, packL, packE, flat1, fcells, fillE, setL, cellsOf_bind, cellsO_own, cellsO_ro, lenE_sl, lenE_nils, lenE_sl0, bound, rep, minE, maxE, List.getElem?_cons_zero, List.getElem?_cons_succ, get_lt, set_lt, get_len, get_len_add, set_len, set_len_add, List.append_assoc, List.cons_append, List.nil_append, -getElem?_pos, b12, s12_1, h0]
  · simp [wpk_skip, wpk_seq, k_cond, wpk_block, wpk_exit, wpk_ret, wpk_loop, k_ops, k_draw0, t_nil, t_cons, KT_eq, KD_eq, wpo_nil, k_cons, k_step, mt_some, mtk_some, KO_eq, KP_eq, K_normal, K_ret, K_exit, KB_normal, KB_ret, KB_exit, KL_normal, KL_ret, KL_exit, k_ret, k_normal, stepE, isCall, calleeE, opE, wantE, odE, odS, odL, odSL, fget, fput, initE, keepF, List.map_cons, List.map_nil, binE, intOp, strOp, shOp, unE, eqpE, eqnE, neqB, ressE, resE, packL, packE, flat1, fcells, fillE, setL, cellsOf_bind, cellsO_own, cellsO_ro, lenE_sl, lenE_nils, lenE_sl0, bound, rep, minE, maxE, List.getElem?_cons_zero, List.getElem?_cons_succ, get_lt, set_lt, get_len, get_len_add, set_len, set_len_add, List.append_assoc, List.cons_append, List.nil_append, -getElem?_pos, b12, s12_1, h0]
theorem rperiod_ok (p : Int) (h : LH) : callX C 14 [.s (.int .i64 p)] h = some (.s (.bool (decide (0 ≤ p ∧ p ≤ 399))), h) := by
  apply callX_wp
  refine WPc.intro (e := e14) rfl (by simp [e14]) ?_
  show WPk C b14 _ _ (KR [.tmp 2] _)
  by_cases h0 : p ≥ 0
  · simp [wpk_skip, wpk_seq, k_cond, wpk_block, wpk_exit, wpk_ret, wpk_loop, k_ops, k_draw0, t_nil, t_cons, KT_eq, KD_eq, wpo_nil, k_cons, k_step, mt_some, mtk_some, KO_eq, KP_eq, K_normal, K_ret, K_exit, KB_normal, KB_ret, KB_exit, KL_normal, KL_ret, KL_exit, k_ret, k_normal, stepE, isCall, calleeE, opE, wantE, odE, odS, odL, odSL, fget, fput, initE, keepF, List.map_cons, List.map_nil, binE, intOp, strOp, shOp, unE, eqpE, eqnE, neqB, ressE, resE, packL, packE, flat1, fcells, fillE, setL, cellsOf_bind, cellsO_own, cellsO_ro, lenE_sl, lenE_nils, lenE_sl0, bound, rep, minE, maxE, List.getElem?_cons_zero, List.getElem?_cons_succ, get_lt, set_lt, get_len, get_len_add, set_len, set_len_add, List.append_assoc, List.cons_append, List.nil_append, -getElem?_pos, b14, s14_1, h0]
  · simp [wpk_skip, wpk_seq, k_cond, wpk_block, wpk_exit, wpk_ret, wpk_loop, k_ops, k_draw0, t_nil, t_cons, KT_eq, KD_eq, wpo_nil, k_cons, k_step, mt_some, mtk_some, KO_eq, KP_eq, K_normal, K_ret, K_exit, KB_normal, KB_ret, KB_exit, KL_normal, KL_ret, KL_exit, k_ret, k_normal, stepE, isCall, calleeE, opE, wantE, odE, odS, odL, odSL, fget, fput, initE, keepF, List.map_cons, List.map_nil, binE, intOp, strOp, shOp, unE, eqpE, eqnE, neqB, ressE, resE, packL, packE, flat1, fcells, fillE, setL, cellsOf_bind, cellsO_own, cellsO_ro, lenE_sl, lenE_nils, lenE_sl0, bound, rep, minE, maxE, List.getElem?_cons_zero, List.getElem?_cons_succ, get_lt, set_lt, get_len, get_len_add, set_len, set_len_add, List.append_assoc, List.cons_append, List.nil_append, -getElem?_pos, b14, s14_1, h0]
def yearF (p : Int) : Int := if 0 ≤ p ∧ p ≤ 399 then p / 4 else -1
theorem year_ok (p : Int) (h : LH) : callX C 9 [.s (.int .i64 p)] h = some (.s (.int .i64 (yearF p)), h) := by
  apply callX_wp
  refine WPc.intro (e := e9) rfl (by simp [e9]) ?_
  show WPk C b9 _ _ (KR [.tmp 2] _)
  have q := fun h => right_ok p h
  unfold yearF
  by_cases c : 0 ≤ p ∧ p ≤ 399
  · rw [decide_eq_true c] at q
    rw [if_pos c]
    have e : p.tdiv 4 = p / 4 := Int.tdiv_eq_ediv_of_nonneg c.1
    have w : IntKind.i64.wrap (p / 4) = p / 4 := wrap_small (by omega) (by omega)
    simp [wpk_skip, wpk_seq, k_cond, wpk_block, wpk_exit, wpk_ret, wpk_loop, k_ops, k_draw0, t_nil, t_cons, KT_eq, KD_eq, wpo_nil, k_cons, k_step, mt_some, mtk_some, KO_eq, KP_eq, K_normal, K_ret, K_exit, KB_normal, KB_ret, KB_exit, KL_normal, KL_ret, KL_exit, k_ret, k_normal, stepE, isCall, calleeE, opE, wantE, odE, odS, odL, odSL, fget, fput, initE, keepF, List.map_cons, List.map_nil, binE, intOp, strOp, shOp, unE, eqpE, eqnE, neqB, ressE, resE, packL, packE, flat1, fcells, fillE, setL, cellsOf_bind, cellsO_own, cellsO_ro, lenE_sl, lenE_nils, lenE_sl0, bound, rep, minE, maxE, List.getElem?_cons_zero, List.getElem?_cons_succ, get_lt, set_lt, get_len, get_len_add, set_len, set_len_add, List.append_assoc, List.cons_append, List.nil_append, -getElem?_pos, b9, s9_2, s9_1, q, e, w]
  · rw [decide_eq_false c] at q
    rw [if_neg c]
    simp [wpk_skip, wpk_seq, k_cond, wpk_block, wpk_exit, wpk_ret, wpk_loop, k_ops, k_draw0, t_nil, t_cons, KT_eq, KD_eq, wpo_nil, k_cons, k_step, mt_some, mtk_some, KO_eq, KP_eq, K_normal, K_ret, K_exit, KB_normal, KB_ret, KB_exit, KL_normal, KL_ret, KL_exit, k_ret, k_normal, stepE, isCall, calleeE, opE, wantE, odE, odS, odL, odSL, fget, fput, initE, keepF, List.map_cons, List.map_nil, binE, intOp, strOp, shOp, unE, eqpE, eqnE, neqB, ressE, resE, packL, packE, flat1, fcells, fillE, setL, cellsOf_bind, cellsO_own, cellsO_ro, lenE_sl, lenE_nils, lenE_sl0, bound, rep, minE, maxE, List.getElem?_cons_zero, List.getElem?_cons_succ, get_lt, set_lt, get_len, get_len_add, set_len, set_len_add, List.append_assoc, List.cons_append, List.nil_append, -getElem?_pos, b9, s9_2, s9_1, q]
theorem ryear_ok (p : Int) (h : LH) : callX C 15 [.s (.int .i64 p)] h = some (.s (.int .i64 (yearF p)), h) := by
  apply callX_wp
  refine WPc.intro (e := e15) rfl (by simp [e15]) ?_
  show WPk C b15 _ _ (KR [.tmp 2] _)
  have q := fun h => rperiod_ok p h
  unfold yearF
  by_cases c : 0 ≤ p ∧ p ≤ 399
  · rw [decide_eq_true c] at q
    rw [if_pos c]
    have e : p.tdiv 4 = p / 4 := Int.tdiv_eq_ediv_of_nonneg c.1
    have w : IntKind.i64.wrap (p / 4) = p / 4 := wrap_small (by omega) (by omega)
    simp [wpk_skip, wpk_seq, k_cond, wpk_block, wpk_exit, wpk_ret, wpk_loop, k_ops, k_draw0, t_nil, t_cons, KT_eq, KD_eq, wpo_nil, k_cons, k_step, mt_some, mtk_some, KO_eq, KP_eq, K_normal, K_ret, K_exit, KB_normal, KB_ret, KB_exit, KL_normal, KL_ret, KL_exit, k_ret, k_normal, stepE, isCall, calleeE, opE, wantE, odE, odS, odL, odSL, fget, fput, initE, keepF, List.map_cons, List.map_nil, binE, intOp, strOp, shOp, unE, eqpE, eqnE, neqB, ressE, resE, packL, packE, flat1, fcells, fillE, setL, cellsOf_bind, cellsO_own, cellsO_ro, lenE_sl, lenE_nils, lenE_sl0, bound, rep, minE, maxE, List.getElem?_cons_zero, List.getElem?_cons_succ, get_lt, set_lt, get_len, get_len_add, set_len, set_len_add, List.append_assoc, List.cons_append, List.nil_append, -getElem?_pos, b15, s15_2, s15_1, q, e, w]
  · rw [decide_eq_false c] at q
    rw [if_neg c]
    simp [wpk_skip, wpk_seq, k_cond, wpk_block, wpk_exit, wpk_ret, wpk_loop, k_ops, k_draw0, t_nil, t_cons, KT_eq, KD_eq, wpo_nil, k_cons, k_step, mt_some, mtk_some, KO_eq, KP_eq, K_normal, K_ret, K_exit, KB_normal, KB_ret, KB_exit, KL_normal, KL_ret, KL_exit, k_ret, k_normal, stepE, isCall, calleeE, opE, wantE, odE, odS, odL, odSL, fget, fput, initE, keepF, List.map_cons, List.map_nil, binE, intOp, strOp, shOp, unE, eqpE, eqnE, neqB, ressE, resE, packL, packE, flat1, fcells, fillE, setL, cellsOf_bind, cellsO_own, cellsO_ro, lenE_sl, lenE_nils, lenE_sl0, bound, rep, minE, maxE, List.getElem?_cons_zero, List.getElem?_cons_succ, get_lt, set_lt, get_len, get_len_add, set_len, set_len_add, List.append_assoc, List.cons_append, List.nil_append, -getElem?_pos, b15, s15_2, s15_1, q]
def firstF (y : Int) : Int := if 0 ≤ y ∧ y ≤ 99 then 4 * y else -1
theorem first_ok (y : Int) (h : LH) : callX C 10 [.s (.int .i64 y)] h = some (.s (.int .i64 (firstF y)), h) := by
  apply callX_wp
  refine WPc.intro (e := e10) rfl (by simp [e10]) ?_
  show WPk C b10 _ _ (KR [.tmp 2] _)
  unfold firstF
  by_cases c1 : y < 0
  · rw [if_neg (by omega)]
    simp [wpk_skip, wpk_seq, k_cond, wpk_block, wpk_exit, wpk_ret, wpk_loop, k_ops, k_draw0, t_nil, t_cons, KT_eq, KD_eq, wpo_nil, k_cons, k_step, mt_some, mtk_some, KO_eq, KP_eq, K_normal, K_ret, K_exit, KB_normal, KB_ret, KB_exit, KL_normal, KL_ret, KL_exit, k_ret, k_normal, stepE, isCall, calleeE, opE, wantE, odE, odS, odL, odSL, fget, fput, initE, keepF, List.map_cons, List.map_nil, binE, intOp, strOp, shOp, unE, eqpE, eqnE, neqB, ressE, resE, packL, packE, flat1, fcells, fillE, setL, cellsOf_bind, cellsO_own, cellsO_ro, lenE_sl, lenE_nils, lenE_sl0, bound, rep, minE, maxE, List.getElem?_cons_zero, List.getElem?_cons_succ, get_lt, set_lt, get_len, get_len_add, set_len, set_len_add, List.append_assoc, List.cons_append, List.nil_append, -getElem?_pos, b10, s10_2, s10_1, c1]
  by_cases c2 : y > 99
  · rw [if_neg (by omega)]
    have c2' : 99 < y := c2
    simp [wpk_skip, wpk_seq, k_cond, wpk_block, wpk_exit, wpk_ret, wpk_loop, k_ops, k_draw0, t_nil, t_cons, KT_eq, KD_eq, wpo_nil, k_cons, k_step, mt_some, mtk_some, KO_eq, KP_eq, K_normal, K_ret, K_exit, KB_normal, KB_ret, KB_exit, KL_normal, KL_ret, KL_exit, k_ret, k_normal, stepE, isCall, calleeE, opE, wantE, odE, odS, odL, odSL, fget, fput, initE, keepF, List.map_cons, List.map_nil, binE, intOp, strOp, shOp, unE, eqpE, eqnE, neqB, ressE, resE, packL, packE, flat1, fcells, fillE, setL, cellsOf_bind, cellsO_own, cellsO_ro, lenE_sl, lenE_nils, lenE_sl0, bound, rep, minE, maxE, List.getElem?_cons_zero, List.getElem?_cons_succ, get_lt, set_lt, get_len, get_len_add, set_len, set_len_add, List.append_assoc, List.cons_append, List.nil_append, -getElem?_pos, b10, s10_2, s10_1, c1, c2, c2']
  have c2' : ¬ 99 < y := c2
  rw [if_pos (by omega)]
  have w : IntKind.i64.wrap (y * 4) = 4 * y := by rw [wrap_small (by omega) (by omega)]; omega
  simp [wpk_skip, wpk_seq, k_cond, wpk_block, wpk_exit, wpk_ret, wpk_loop, k_ops, k_draw0, t_nil, t_cons, KT_eq, KD_eq, wpo_nil, k_cons, k_step, mt_some, mtk_some, KO_eq, KP_eq, K_normal, K_ret, K_exit, KB_normal, KB_ret, KB_exit, KL_normal, KL_ret, KL_exit, k_ret, k_normal, stepE, isCall, calleeE, opE, wantE, odE, odS, odL, odSL, fget, fput, initE, keepF, List.map_cons, List.map_nil, binE, intOp, strOp, shOp, unE, eqpE, eqnE, neqB, ressE, resE, packL, packE, flat1, fcells, fillE, setL, cellsOf_bind, cellsO_own, cellsO_ro, lenE_sl, lenE_nils, lenE_sl0, bound, rep, minE, maxE, List.getElem?_cons_zero, List.getElem?_cons_succ, get_lt, set_lt, get_len, get_len_add, set_len, set_len_add, List.append_assoc, List.cons_append, List.nil_append, -getElem?_pos, b10, s10_2, s10_1, c1, c2, c2', w]

/-- A period's text, of any number. -/
def txtF (p : Int) : ByteArray := if 0 ≤ p ∧ p ≤ 399 then txt p.toNat else ⟨#[]⟩
theorem text_ok (p : Int) (h : LH) : callX C 8 [.s (.int .i64 p)] h = some (.s (.str (txtF p)), h) := by
  apply callX_wp
  refine WPc.intro (e := e8) rfl (by simp [e8]) ?_
  show WPk C b8 _ _ (KR [.tmp 2] _)
  have q := fun h => right_ok p h
  have q2 := fun h => year_ok p h
  unfold txtF
  by_cases c : 0 ≤ p ∧ p ≤ 399
  · rw [decide_eq_true c] at q
    rw [if_pos c]
    unfold yearF at q2
    simp only [if_pos c] at q2
    obtain ⟨n, hn⟩ : ∃ n : Nat, p = n := ⟨p.toNat, by omega⟩
    subst hn
    have e1 : ((n : Int) / 4) = ((n / 4 : Nat) : Int) := by omega
    rw [e1] at q2
    have e2 : (n : Int).tmod 4 = ((n % 4 : Nat) : Int) := by rw [Int.tmod_eq_emod_of_nonneg (by omega)]; omega
    have w1 : IntKind.i64.wrap (2000 + ((n / 4 : Nat) : Int)) = ((2000 + n / 4 : Nat) : Int) := by rw [wrap_small (by omega) (by omega)]; omega
    have w2 : IntKind.i64.wrap (((n % 4 : Nat) : Int) + 1) = ((1 + n % 4 : Nat) : Int) := by rw [wrap_small (by omega) (by omega)]; omega
    have i1 := fun h => itoa_call (n := ((2000 + n / 4 : Nat) : Int)) (by omega) h
    have i2 := fun h => itoa_call (n := ((1 + n % 4 : Nat) : Int)) (by omega) h
    have ta := txt_app (p := n) (by omega)
    have l1 : (Lib.itoa ((2000 + n / 4 : Nat) : Int)).length = 4 := by rw [itoa_year (by omega)]; rfl
    have l2 : (Lib.itoa ((1 + n % 4 : Nat) : Int)).length = 1 := by rw [itoa_one (by omega)]; rfl
    rw [Int.toNat_natCast]
    generalize 2000 + n / 4 = a at *
    generalize 1 + n % 4 = b at *
    generalize n / 4 = c4 at *
    generalize n % 4 = d4 at *
    generalize Lib.itoa (a : Int) = A at *
    generalize Lib.itoa (b : Int) = B at *
    have s1 : (⟨A.toArray⟩ : ByteArray).size = 4 := by rw [← l1]; rfl
    have s2 : (⟨B.toArray⟩ : ByteArray).size = 1 := by rw [← l2]; rfl
    have s3 : ((⟨A.toArray⟩ : ByteArray) ++ ⟨#[113]⟩).size = 5 := by rw [ByteArray.size_append, s1]; rfl
    have s4 : (⟨#[113]⟩ : ByteArray).size = 1 := rfl
    simp [wpk_skip, wpk_seq, k_cond, wpk_block, wpk_exit, wpk_ret, wpk_loop, k_ops, k_draw0, t_nil, t_cons, KT_eq, KD_eq, wpo_nil, k_cons, k_step, mt_some, mtk_some, KO_eq, KP_eq, K_normal, K_ret, K_exit, KB_normal, KB_ret, KB_exit, KL_normal, KL_ret, KL_exit, k_ret, k_normal, stepE, isCall, calleeE, opE, wantE, odE, odS, odL, odSL, fget, fput, initE, keepF, List.map_cons, List.map_nil, binE, intOp, strOp, shOp, unE, eqpE, eqnE, neqB, ressE, resE, packL, packE, flat1, fcells, fillE, setL, cellsOf_bind, cellsO_own, cellsO_ro, lenE_sl, lenE_nils, lenE_sl0, bound, rep, minE, maxE, List.getElem?_cons_zero, List.getElem?_cons_succ, get_lt, set_lt, get_len, get_len_add, set_len, set_len_add, List.append_assoc, List.cons_append, List.nil_append, -getElem?_pos, b8, s8_2, s8_1, q, q2, e2, w1, w2, i1, i2, s1, s2, s3, s4]
    exact ta
  · rw [decide_eq_false c] at q
    rw [if_neg c]
    simp [wpk_skip, wpk_seq, k_cond, wpk_block, wpk_exit, wpk_ret, wpk_loop, k_ops, k_draw0, t_nil, t_cons, KT_eq, KD_eq, wpo_nil, k_cons, k_step, mt_some, mtk_some, KO_eq, KP_eq, K_normal, K_ret, K_exit, KB_normal, KB_ret, KB_exit, KL_normal, KL_ret, KL_exit, k_ret, k_normal, stepE, isCall, calleeE, opE, wantE, odE, odS, odL, odSL, fget, fput, initE, keepF, List.map_cons, List.map_nil, binE, intOp, strOp, shOp, unE, eqpE, eqnE, neqB, ressE, resE, packL, packE, flat1, fcells, fillE, setL, cellsOf_bind, cellsO_own, cellsO_ro, lenE_sl, lenE_nils, lenE_sl0, bound, rep, minE, maxE, List.getElem?_cons_zero, List.getElem?_cons_succ, get_lt, set_lt, get_len, get_len_add, set_len, set_len_add, List.append_assoc, List.cons_append, List.nil_append, -getElem?_pos, b8, s8_2, s8_1, q]
end Go.Proofs.YtejoijjmlglhfaaDoor.Ev.CP
