/- Scripts as bytes: the parts, on the small machine. -/
import Derived.Test.YtbgfcgmbihhlbaaDoorCodeW
import Derived.Test.YtbgfcgmbihhlbaaDoorEvMay2
set_option linter.unusedSimpArgs false
set_option linter.unusedVariables false
namespace Go.Proofs.YtbgfcgmbihhlbaaDoor.Ev.CW
open Go
open CK (Cm encC fieldsL fieldsB okC cmOf_enc)

def encB (n : Int) : List SV := [.int .u8 n]
theorem encB_len (n : Int) : (encB n).length = 1 := rfl
theorem encB_flat (l : List Int) : l.flatMap encB = l.map (.int .u8) := by
  induction l with
  | nil => rfl
  | cons a l ih => rw [List.flatMap_cons, ih]; rfl
theorem encC_len (m : Cm) : (encC m).length = 12 := rfl

theorem check_call (m : Cm) (h : LH) : callX C 23 [.agg (encC m)] h = some (.s (.int .i64 (if okC m then 0 else 1)), h) := by
  refine ext_call1 (g := gCheck) rfl rfl ?_ (Nat.le_refl _) rfl
  simp only [gCheck, cmOf_enc]

theorem fields_ok (k : Int) (h : LH) : callX C 33 [.s (.int .i64 k)] h = some (.s (.str (fieldsB k)), h) := by
  apply callX_wp
  refine WPc.intro (e := e33) rfl (by simp [e33]) ?_
  show WPk C b33 _ _ (KR [.tmp 2] _)
  unfold fieldsB fieldsL
  by_cases c1 : k = 1
  · subst c1; simp [wpk_skip, wpk_seq, k_cond, wpk_block, wpk_exit, wpk_ret, wpk_goto, wpk_label, wpk_loop, k_ops, k_draw0, t_nil, t_cons, KT_eq, KD_eq, wpo_nil, k_cons, k_step, mt_some, mtk_some, KO_eq, KP_eq, K_normal, K_ret, K_exit, KB_normal, KB_ret, KB_exit, KL_normal, KL_ret, KL_exit, K_goto, KB_goto, KL_goto, KS_goto, KS_ret, KS_normal, KS_exit, k_ret, k_normal, stepE, isCall, calleeE, opE, wantE, odE, odS, odL, odSL, fget, fput, initE, keepF, List.map_cons, List.map_nil, binE, intOp, strOp, shOp, unE, eqpE, eqnE, neqB, ressE, resE, packL, packE, flat1, fcells, fillE, setL, cellsOf_bind, cellsO_own, cellsO_ro, lenE_sl, lenE_nils, lenE_sl0, bound, rep, minE, maxE, Option.getD_some, Option.getD_none, isKey, nlS, List.getElem?_cons_zero, List.getElem?_cons_succ, get_lt, set_lt, get_len, get_len_add, set_len, set_len_add, List.append_assoc, List.cons_append, List.nil_append, -getElem?_pos, b33, s33_2, s33_1]
  by_cases c2 : k = 2
  · subst c2; simp [wpk_skip, wpk_seq, k_cond, wpk_block, wpk_exit, wpk_ret, wpk_goto, wpk_label, wpk_loop, k_ops, k_draw0, t_nil, t_cons, KT_eq, KD_eq, wpo_nil, k_cons, k_step, mt_some, mtk_some, KO_eq, KP_eq, K_normal, K_ret, K_exit, KB_normal, KB_ret, KB_exit, KL_normal, KL_ret, KL_exit, K_goto, KB_goto, KL_goto, KS_goto, KS_ret, KS_normal, KS_exit, k_ret, k_normal, stepE, isCall, calleeE, opE, wantE, odE, odS, odL, odSL, fget, fput, initE, keepF, List.map_cons, List.map_nil, binE, intOp, strOp, shOp, unE, eqpE, eqnE, neqB, ressE, resE, packL, packE, flat1, fcells, fillE, setL, cellsOf_bind, cellsO_own, cellsO_ro, lenE_sl, lenE_nils, lenE_sl0, bound, rep, minE, maxE, Option.getD_some, Option.getD_none, isKey, nlS, List.getElem?_cons_zero, List.getElem?_cons_succ, get_lt, set_lt, get_len, get_len_add, set_len, set_len_add, List.append_assoc, List.cons_append, List.nil_append, -getElem?_pos, b33, s33_2, s33_1]
  by_cases c3 : k = 3
  · subst c3; simp [wpk_skip, wpk_seq, k_cond, wpk_block, wpk_exit, wpk_ret, wpk_goto, wpk_label, wpk_loop, k_ops, k_draw0, t_nil, t_cons, KT_eq, KD_eq, wpo_nil, k_cons, k_step, mt_some, mtk_some, KO_eq, KP_eq, K_normal, K_ret, K_exit, KB_normal, KB_ret, KB_exit, KL_normal, KL_ret, KL_exit, K_goto, KB_goto, KL_goto, KS_goto, KS_ret, KS_normal, KS_exit, k_ret, k_normal, stepE, isCall, calleeE, opE, wantE, odE, odS, odL, odSL, fget, fput, initE, keepF, List.map_cons, List.map_nil, binE, intOp, strOp, shOp, unE, eqpE, eqnE, neqB, ressE, resE, packL, packE, flat1, fcells, fillE, setL, cellsOf_bind, cellsO_own, cellsO_ro, lenE_sl, lenE_nils, lenE_sl0, bound, rep, minE, maxE, Option.getD_some, Option.getD_none, isKey, nlS, List.getElem?_cons_zero, List.getElem?_cons_succ, get_lt, set_lt, get_len, get_len_add, set_len, set_len_add, List.append_assoc, List.cons_append, List.nil_append, -getElem?_pos, b33, s33_2, s33_1]
  by_cases c4 : k = 4
  · subst c4; simp [wpk_skip, wpk_seq, k_cond, wpk_block, wpk_exit, wpk_ret, wpk_goto, wpk_label, wpk_loop, k_ops, k_draw0, t_nil, t_cons, KT_eq, KD_eq, wpo_nil, k_cons, k_step, mt_some, mtk_some, KO_eq, KP_eq, K_normal, K_ret, K_exit, KB_normal, KB_ret, KB_exit, KL_normal, KL_ret, KL_exit, K_goto, KB_goto, KL_goto, KS_goto, KS_ret, KS_normal, KS_exit, k_ret, k_normal, stepE, isCall, calleeE, opE, wantE, odE, odS, odL, odSL, fget, fput, initE, keepF, List.map_cons, List.map_nil, binE, intOp, strOp, shOp, unE, eqpE, eqnE, neqB, ressE, resE, packL, packE, flat1, fcells, fillE, setL, cellsOf_bind, cellsO_own, cellsO_ro, lenE_sl, lenE_nils, lenE_sl0, bound, rep, minE, maxE, Option.getD_some, Option.getD_none, isKey, nlS, List.getElem?_cons_zero, List.getElem?_cons_succ, get_lt, set_lt, get_len, get_len_add, set_len, set_len_add, List.append_assoc, List.cons_append, List.nil_append, -getElem?_pos, b33, s33_2, s33_1]
  by_cases c5 : k = 5
  · subst c5; simp [wpk_skip, wpk_seq, k_cond, wpk_block, wpk_exit, wpk_ret, wpk_goto, wpk_label, wpk_loop, k_ops, k_draw0, t_nil, t_cons, KT_eq, KD_eq, wpo_nil, k_cons, k_step, mt_some, mtk_some, KO_eq, KP_eq, K_normal, K_ret, K_exit, KB_normal, KB_ret, KB_exit, KL_normal, KL_ret, KL_exit, K_goto, KB_goto, KL_goto, KS_goto, KS_ret, KS_normal, KS_exit, k_ret, k_normal, stepE, isCall, calleeE, opE, wantE, odE, odS, odL, odSL, fget, fput, initE, keepF, List.map_cons, List.map_nil, binE, intOp, strOp, shOp, unE, eqpE, eqnE, neqB, ressE, resE, packL, packE, flat1, fcells, fillE, setL, cellsOf_bind, cellsO_own, cellsO_ro, lenE_sl, lenE_nils, lenE_sl0, bound, rep, minE, maxE, Option.getD_some, Option.getD_none, isKey, nlS, List.getElem?_cons_zero, List.getElem?_cons_succ, get_lt, set_lt, get_len, get_len_add, set_len, set_len_add, List.append_assoc, List.cons_append, List.nil_append, -getElem?_pos, b33, s33_2, s33_1]
  by_cases c6 : k = 6
  · subst c6; simp [wpk_skip, wpk_seq, k_cond, wpk_block, wpk_exit, wpk_ret, wpk_goto, wpk_label, wpk_loop, k_ops, k_draw0, t_nil, t_cons, KT_eq, KD_eq, wpo_nil, k_cons, k_step, mt_some, mtk_some, KO_eq, KP_eq, K_normal, K_ret, K_exit, KB_normal, KB_ret, KB_exit, KL_normal, KL_ret, KL_exit, K_goto, KB_goto, KL_goto, KS_goto, KS_ret, KS_normal, KS_exit, k_ret, k_normal, stepE, isCall, calleeE, opE, wantE, odE, odS, odL, odSL, fget, fput, initE, keepF, List.map_cons, List.map_nil, binE, intOp, strOp, shOp, unE, eqpE, eqnE, neqB, ressE, resE, packL, packE, flat1, fcells, fillE, setL, cellsOf_bind, cellsO_own, cellsO_ro, lenE_sl, lenE_nils, lenE_sl0, bound, rep, minE, maxE, Option.getD_some, Option.getD_none, isKey, nlS, List.getElem?_cons_zero, List.getElem?_cons_succ, get_lt, set_lt, get_len, get_len_add, set_len, set_len_add, List.append_assoc, List.cons_append, List.nil_append, -getElem?_pos, b33, s33_2, s33_1]
  by_cases c7 : k = 7
  · subst c7; simp [wpk_skip, wpk_seq, k_cond, wpk_block, wpk_exit, wpk_ret, wpk_goto, wpk_label, wpk_loop, k_ops, k_draw0, t_nil, t_cons, KT_eq, KD_eq, wpo_nil, k_cons, k_step, mt_some, mtk_some, KO_eq, KP_eq, K_normal, K_ret, K_exit, KB_normal, KB_ret, KB_exit, KL_normal, KL_ret, KL_exit, K_goto, KB_goto, KL_goto, KS_goto, KS_ret, KS_normal, KS_exit, k_ret, k_normal, stepE, isCall, calleeE, opE, wantE, odE, odS, odL, odSL, fget, fput, initE, keepF, List.map_cons, List.map_nil, binE, intOp, strOp, shOp, unE, eqpE, eqnE, neqB, ressE, resE, packL, packE, flat1, fcells, fillE, setL, cellsOf_bind, cellsO_own, cellsO_ro, lenE_sl, lenE_nils, lenE_sl0, bound, rep, minE, maxE, Option.getD_some, Option.getD_none, isKey, nlS, List.getElem?_cons_zero, List.getElem?_cons_succ, get_lt, set_lt, get_len, get_len_add, set_len, set_len_add, List.append_assoc, List.cons_append, List.nil_append, -getElem?_pos, b33, s33_2, s33_1]
  by_cases c8 : k = 8
  · subst c8; simp [wpk_skip, wpk_seq, k_cond, wpk_block, wpk_exit, wpk_ret, wpk_goto, wpk_label, wpk_loop, k_ops, k_draw0, t_nil, t_cons, KT_eq, KD_eq, wpo_nil, k_cons, k_step, mt_some, mtk_some, KO_eq, KP_eq, K_normal, K_ret, K_exit, KB_normal, KB_ret, KB_exit, KL_normal, KL_ret, KL_exit, K_goto, KB_goto, KL_goto, KS_goto, KS_ret, KS_normal, KS_exit, k_ret, k_normal, stepE, isCall, calleeE, opE, wantE, odE, odS, odL, odSL, fget, fput, initE, keepF, List.map_cons, List.map_nil, binE, intOp, strOp, shOp, unE, eqpE, eqnE, neqB, ressE, resE, packL, packE, flat1, fcells, fillE, setL, cellsOf_bind, cellsO_own, cellsO_ro, lenE_sl, lenE_nils, lenE_sl0, bound, rep, minE, maxE, Option.getD_some, Option.getD_none, isKey, nlS, List.getElem?_cons_zero, List.getElem?_cons_succ, get_lt, set_lt, get_len, get_len_add, set_len, set_len_add, List.append_assoc, List.cons_append, List.nil_append, -getElem?_pos, b33, s33_2, s33_1]
  by_cases c9 : k = 9
  · subst c9; simp [wpk_skip, wpk_seq, k_cond, wpk_block, wpk_exit, wpk_ret, wpk_goto, wpk_label, wpk_loop, k_ops, k_draw0, t_nil, t_cons, KT_eq, KD_eq, wpo_nil, k_cons, k_step, mt_some, mtk_some, KO_eq, KP_eq, K_normal, K_ret, K_exit, KB_normal, KB_ret, KB_exit, KL_normal, KL_ret, KL_exit, K_goto, KB_goto, KL_goto, KS_goto, KS_ret, KS_normal, KS_exit, k_ret, k_normal, stepE, isCall, calleeE, opE, wantE, odE, odS, odL, odSL, fget, fput, initE, keepF, List.map_cons, List.map_nil, binE, intOp, strOp, shOp, unE, eqpE, eqnE, neqB, ressE, resE, packL, packE, flat1, fcells, fillE, setL, cellsOf_bind, cellsO_own, cellsO_ro, lenE_sl, lenE_nils, lenE_sl0, bound, rep, minE, maxE, Option.getD_some, Option.getD_none, isKey, nlS, List.getElem?_cons_zero, List.getElem?_cons_succ, get_lt, set_lt, get_len, get_len_add, set_len, set_len_add, List.append_assoc, List.cons_append, List.nil_append, -getElem?_pos, b33, s33_2, s33_1]
  by_cases c10 : k = 10
  · subst c10; simp [wpk_skip, wpk_seq, k_cond, wpk_block, wpk_exit, wpk_ret, wpk_goto, wpk_label, wpk_loop, k_ops, k_draw0, t_nil, t_cons, KT_eq, KD_eq, wpo_nil, k_cons, k_step, mt_some, mtk_some, KO_eq, KP_eq, K_normal, K_ret, K_exit, KB_normal, KB_ret, KB_exit, KL_normal, KL_ret, KL_exit, K_goto, KB_goto, KL_goto, KS_goto, KS_ret, KS_normal, KS_exit, k_ret, k_normal, stepE, isCall, calleeE, opE, wantE, odE, odS, odL, odSL, fget, fput, initE, keepF, List.map_cons, List.map_nil, binE, intOp, strOp, shOp, unE, eqpE, eqnE, neqB, ressE, resE, packL, packE, flat1, fcells, fillE, setL, cellsOf_bind, cellsO_own, cellsO_ro, lenE_sl, lenE_nils, lenE_sl0, bound, rep, minE, maxE, Option.getD_some, Option.getD_none, isKey, nlS, List.getElem?_cons_zero, List.getElem?_cons_succ, get_lt, set_lt, get_len, get_len_add, set_len, set_len_add, List.append_assoc, List.cons_append, List.nil_append, -getElem?_pos, b33, s33_2, s33_1]
  by_cases c11 : k = 11
  · subst c11; simp [wpk_skip, wpk_seq, k_cond, wpk_block, wpk_exit, wpk_ret, wpk_goto, wpk_label, wpk_loop, k_ops, k_draw0, t_nil, t_cons, KT_eq, KD_eq, wpo_nil, k_cons, k_step, mt_some, mtk_some, KO_eq, KP_eq, K_normal, K_ret, K_exit, KB_normal, KB_ret, KB_exit, KL_normal, KL_ret, KL_exit, K_goto, KB_goto, KL_goto, KS_goto, KS_ret, KS_normal, KS_exit, k_ret, k_normal, stepE, isCall, calleeE, opE, wantE, odE, odS, odL, odSL, fget, fput, initE, keepF, List.map_cons, List.map_nil, binE, intOp, strOp, shOp, unE, eqpE, eqnE, neqB, ressE, resE, packL, packE, flat1, fcells, fillE, setL, cellsOf_bind, cellsO_own, cellsO_ro, lenE_sl, lenE_nils, lenE_sl0, bound, rep, minE, maxE, Option.getD_some, Option.getD_none, isKey, nlS, List.getElem?_cons_zero, List.getElem?_cons_succ, get_lt, set_lt, get_len, get_len_add, set_len, set_len_add, List.append_assoc, List.cons_append, List.nil_append, -getElem?_pos, b33, s33_2, s33_1]
  by_cases c12 : k = 12
  · subst c12; simp [wpk_skip, wpk_seq, k_cond, wpk_block, wpk_exit, wpk_ret, wpk_goto, wpk_label, wpk_loop, k_ops, k_draw0, t_nil, t_cons, KT_eq, KD_eq, wpo_nil, k_cons, k_step, mt_some, mtk_some, KO_eq, KP_eq, K_normal, K_ret, K_exit, KB_normal, KB_ret, KB_exit, KL_normal, KL_ret, KL_exit, K_goto, KB_goto, KL_goto, KS_goto, KS_ret, KS_normal, KS_exit, k_ret, k_normal, stepE, isCall, calleeE, opE, wantE, odE, odS, odL, odSL, fget, fput, initE, keepF, List.map_cons, List.map_nil, binE, intOp, strOp, shOp, unE, eqpE, eqnE, neqB, ressE, resE, packL, packE, flat1, fcells, fillE, setL, cellsOf_bind, cellsO_own, cellsO_ro, lenE_sl, lenE_nils, lenE_sl0, bound, rep, minE, maxE, Option.getD_some, Option.getD_none, isKey, nlS, List.getElem?_cons_zero, List.getElem?_cons_succ, get_lt, set_lt, get_len, get_len_add, set_len, set_len_add, List.append_assoc, List.cons_append, List.nil_append, -getElem?_pos, b33, s33_2, s33_1]
  have e1 : (k == 1) = false := by simpa using c1
  have e2 : (k == 2) = false := by simpa using c2
  have e3 : (k == 3) = false := by simpa using c3
  have e4 : (k == 4) = false := by simpa using c4
  have e5 : (k == 5) = false := by simpa using c5
  have e6 : (k == 6) = false := by simpa using c6
  have e7 : (k == 7) = false := by simpa using c7
  have e8 : (k == 8) = false := by simpa using c8
  have e9 : (k == 9) = false := by simpa using c9
  have e10 : (k == 10) = false := by simpa using c10
  have e11 : (k == 11) = false := by simpa using c11
  have e12 : (k == 12) = false := by simpa using c12
  simp [wpk_skip, wpk_seq, k_cond, wpk_block, wpk_exit, wpk_ret, wpk_goto, wpk_label, wpk_loop, k_ops, k_draw0, t_nil, t_cons, KT_eq, KD_eq, wpo_nil, k_cons, k_step, mt_some, mtk_some, KO_eq, KP_eq, K_normal, K_ret, K_exit, KB_normal, KB_ret, KB_exit, KL_normal, KL_ret, KL_exit, K_goto, KB_goto, KL_goto, KS_goto, KS_ret, KS_normal, KS_exit, k_ret, k_normal, stepE, isCall, calleeE, opE, wantE, odE, odS, odL, odSL, fget, fput, initE, keepF, List.map_cons, List.map_nil, binE, intOp, strOp, shOp, unE, eqpE, eqnE, neqB, ressE, resE, packL, packE, flat1, fcells, fillE, setL, cellsOf_bind, cellsO_own, cellsO_ro, lenE_sl, lenE_nils, lenE_sl0, bound, rep, minE, maxE, Option.getD_some, Option.getD_none, isKey, nlS, List.getElem?_cons_zero, List.getElem?_cons_succ, get_lt, set_lt, get_len, get_len_add, set_len, set_len_add, List.append_assoc, List.cons_append, List.nil_append, -getElem?_pos, b33, s33_2, s33_1, c1, c2, c3, c4, c5, c6, c7, c8, c9, c10, c11, c12, e1, e2, e3, e4, e5, e6, e7, e8, e9, e10, e11, e12]

/-- Where a command's text of a letter lies. -/
def wordV (i : Nat) (f : Int) : SV := if f = 73 then .ptr i 1 else if f = 75 then .ptr i 2 else if f = 74 then .ptr i 3 else .nilp
theorem word_ok (i : Nat) (f : Int) (h : LH) : callX C 38 [.s (.ptr i 0), .s (.int .i32 f)] h = some (.s (wordV i f), h) := by
  apply callX_wp
  refine WPc.intro (e := e38) rfl (by simp [e38]) ?_
  show WPk C b38 _ _ (KR [.tmp 4] _)
  unfold wordV
  by_cases c1 : f = 73
  · subst c1; simp [wpk_skip, wpk_seq, k_cond, wpk_block, wpk_exit, wpk_ret, wpk_goto, wpk_label, wpk_loop, k_ops, k_draw0, t_nil, t_cons, KT_eq, KD_eq, wpo_nil, k_cons, k_step, mt_some, mtk_some, KO_eq, KP_eq, K_normal, K_ret, K_exit, KB_normal, KB_ret, KB_exit, KL_normal, KL_ret, KL_exit, K_goto, KB_goto, KL_goto, KS_goto, KS_ret, KS_normal, KS_exit, k_ret, k_normal, stepE, isCall, calleeE, opE, wantE, odE, odS, odL, odSL, fget, fput, initE, keepF, List.map_cons, List.map_nil, binE, intOp, strOp, shOp, unE, eqpE, eqnE, neqB, ressE, resE, packL, packE, flat1, fcells, fillE, setL, cellsOf_bind, cellsO_own, cellsO_ro, lenE_sl, lenE_nils, lenE_sl0, bound, rep, minE, maxE, Option.getD_some, Option.getD_none, isKey, nlS, List.getElem?_cons_zero, List.getElem?_cons_succ, get_lt, set_lt, get_len, get_len_add, set_len, set_len_add, List.append_assoc, List.cons_append, List.nil_append, -getElem?_pos, b38, s38_2, s38_1]
  by_cases c2 : f = 75
  · subst c2; simp [wpk_skip, wpk_seq, k_cond, wpk_block, wpk_exit, wpk_ret, wpk_goto, wpk_label, wpk_loop, k_ops, k_draw0, t_nil, t_cons, KT_eq, KD_eq, wpo_nil, k_cons, k_step, mt_some, mtk_some, KO_eq, KP_eq, K_normal, K_ret, K_exit, KB_normal, KB_ret, KB_exit, KL_normal, KL_ret, KL_exit, K_goto, KB_goto, KL_goto, KS_goto, KS_ret, KS_normal, KS_exit, k_ret, k_normal, stepE, isCall, calleeE, opE, wantE, odE, odS, odL, odSL, fget, fput, initE, keepF, List.map_cons, List.map_nil, binE, intOp, strOp, shOp, unE, eqpE, eqnE, neqB, ressE, resE, packL, packE, flat1, fcells, fillE, setL, cellsOf_bind, cellsO_own, cellsO_ro, lenE_sl, lenE_nils, lenE_sl0, bound, rep, minE, maxE, Option.getD_some, Option.getD_none, isKey, nlS, List.getElem?_cons_zero, List.getElem?_cons_succ, get_lt, set_lt, get_len, get_len_add, set_len, set_len_add, List.append_assoc, List.cons_append, List.nil_append, -getElem?_pos, b38, s38_2, s38_1]
  by_cases c3 : f = 74
  · subst c3; simp [wpk_skip, wpk_seq, k_cond, wpk_block, wpk_exit, wpk_ret, wpk_goto, wpk_label, wpk_loop, k_ops, k_draw0, t_nil, t_cons, KT_eq, KD_eq, wpo_nil, k_cons, k_step, mt_some, mtk_some, KO_eq, KP_eq, K_normal, K_ret, K_exit, KB_normal, KB_ret, KB_exit, KL_normal, KL_ret, KL_exit, K_goto, KB_goto, KL_goto, KS_goto, KS_ret, KS_normal, KS_exit, k_ret, k_normal, stepE, isCall, calleeE, opE, wantE, odE, odS, odL, odSL, fget, fput, initE, keepF, List.map_cons, List.map_nil, binE, intOp, strOp, shOp, unE, eqpE, eqnE, neqB, ressE, resE, packL, packE, flat1, fcells, fillE, setL, cellsOf_bind, cellsO_own, cellsO_ro, lenE_sl, lenE_nils, lenE_sl0, bound, rep, minE, maxE, Option.getD_some, Option.getD_none, isKey, nlS, List.getElem?_cons_zero, List.getElem?_cons_succ, get_lt, set_lt, get_len, get_len_add, set_len, set_len_add, List.append_assoc, List.cons_append, List.nil_append, -getElem?_pos, b38, s38_2, s38_1]
  have e1 : (f == 73) = false := by simpa using c1
  have e2 : (f == 75) = false := by simpa using c2
  have e3 : (f == 74) = false := by simpa using c3
  simp [wpk_skip, wpk_seq, k_cond, wpk_block, wpk_exit, wpk_ret, wpk_goto, wpk_label, wpk_loop, k_ops, k_draw0, t_nil, t_cons, KT_eq, KD_eq, wpo_nil, k_cons, k_step, mt_some, mtk_some, KO_eq, KP_eq, K_normal, K_ret, K_exit, KB_normal, KB_ret, KB_exit, KL_normal, KL_ret, KL_exit, K_goto, KB_goto, KL_goto, KS_goto, KS_ret, KS_normal, KS_exit, k_ret, k_normal, stepE, isCall, calleeE, opE, wantE, odE, odS, odL, odSL, fget, fput, initE, keepF, List.map_cons, List.map_nil, binE, intOp, strOp, shOp, unE, eqpE, eqnE, neqB, ressE, resE, packL, packE, flat1, fcells, fillE, setL, cellsOf_bind, cellsO_own, cellsO_ro, lenE_sl, lenE_nils, lenE_sl0, bound, rep, minE, maxE, Option.getD_some, Option.getD_none, isKey, nlS, List.getElem?_cons_zero, List.getElem?_cons_succ, get_lt, set_lt, get_len, get_len_add, set_len, set_len_add, List.append_assoc, List.cons_append, List.nil_append, -getElem?_pos, b38, s38_2, s38_1, c1, c2, c3, e1, e2, e3]
/-- Where a command's number of a letter lies. -/
def placeN (f : Int) : Nat := if f = 67 then 4 else if f = 68 then 5 else if f = 89 then 6 else if f = 90 then 7 else if f = 80 then 8 else if f = 65 then 9 else if f = 82 then 10 else 11
theorem place_ok (i : Nat) (f : Int) (h : LH) : callX C 41 [.s (.ptr i 0), .s (.int .i32 f)] h = some (.s (.ptr i (placeN f)), h) := by
  apply callX_wp
  refine WPc.intro (e := e41) rfl (by simp [e41]) ?_
  show WPk C b41 _ _ (KR [.tmp 4] _)
  unfold placeN
  by_cases c1 : f = 67
  · subst c1; simp [wpk_skip, wpk_seq, k_cond, wpk_block, wpk_exit, wpk_ret, wpk_goto, wpk_label, wpk_loop, k_ops, k_draw0, t_nil, t_cons, KT_eq, KD_eq, wpo_nil, k_cons, k_step, mt_some, mtk_some, KO_eq, KP_eq, K_normal, K_ret, K_exit, KB_normal, KB_ret, KB_exit, KL_normal, KL_ret, KL_exit, K_goto, KB_goto, KL_goto, KS_goto, KS_ret, KS_normal, KS_exit, k_ret, k_normal, stepE, isCall, calleeE, opE, wantE, odE, odS, odL, odSL, fget, fput, initE, keepF, List.map_cons, List.map_nil, binE, intOp, strOp, shOp, unE, eqpE, eqnE, neqB, ressE, resE, packL, packE, flat1, fcells, fillE, setL, cellsOf_bind, cellsO_own, cellsO_ro, lenE_sl, lenE_nils, lenE_sl0, bound, rep, minE, maxE, Option.getD_some, Option.getD_none, isKey, nlS, List.getElem?_cons_zero, List.getElem?_cons_succ, get_lt, set_lt, get_len, get_len_add, set_len, set_len_add, List.append_assoc, List.cons_append, List.nil_append, -getElem?_pos, b41, s41_2, s41_1]
  by_cases c2 : f = 68
  · subst c2; simp [wpk_skip, wpk_seq, k_cond, wpk_block, wpk_exit, wpk_ret, wpk_goto, wpk_label, wpk_loop, k_ops, k_draw0, t_nil, t_cons, KT_eq, KD_eq, wpo_nil, k_cons, k_step, mt_some, mtk_some, KO_eq, KP_eq, K_normal, K_ret, K_exit, KB_normal, KB_ret, KB_exit, KL_normal, KL_ret, KL_exit, K_goto, KB_goto, KL_goto, KS_goto, KS_ret, KS_normal, KS_exit, k_ret, k_normal, stepE, isCall, calleeE, opE, wantE, odE, odS, odL, odSL, fget, fput, initE, keepF, List.map_cons, List.map_nil, binE, intOp, strOp, shOp, unE, eqpE, eqnE, neqB, ressE, resE, packL, packE, flat1, fcells, fillE, setL, cellsOf_bind, cellsO_own, cellsO_ro, lenE_sl, lenE_nils, lenE_sl0, bound, rep, minE, maxE, Option.getD_some, Option.getD_none, isKey, nlS, List.getElem?_cons_zero, List.getElem?_cons_succ, get_lt, set_lt, get_len, get_len_add, set_len, set_len_add, List.append_assoc, List.cons_append, List.nil_append, -getElem?_pos, b41, s41_2, s41_1]
  by_cases c3 : f = 89
  · subst c3; simp [wpk_skip, wpk_seq, k_cond, wpk_block, wpk_exit, wpk_ret, wpk_goto, wpk_label, wpk_loop, k_ops, k_draw0, t_nil, t_cons, KT_eq, KD_eq, wpo_nil, k_cons, k_step, mt_some, mtk_some, KO_eq, KP_eq, K_normal, K_ret, K_exit, KB_normal, KB_ret, KB_exit, KL_normal, KL_ret, KL_exit, K_goto, KB_goto, KL_goto, KS_goto, KS_ret, KS_normal, KS_exit, k_ret, k_normal, stepE, isCall, calleeE, opE, wantE, odE, odS, odL, odSL, fget, fput, initE, keepF, List.map_cons, List.map_nil, binE, intOp, strOp, shOp, unE, eqpE, eqnE, neqB, ressE, resE, packL, packE, flat1, fcells, fillE, setL, cellsOf_bind, cellsO_own, cellsO_ro, lenE_sl, lenE_nils, lenE_sl0, bound, rep, minE, maxE, Option.getD_some, Option.getD_none, isKey, nlS, List.getElem?_cons_zero, List.getElem?_cons_succ, get_lt, set_lt, get_len, get_len_add, set_len, set_len_add, List.append_assoc, List.cons_append, List.nil_append, -getElem?_pos, b41, s41_2, s41_1]
  by_cases c4 : f = 90
  · subst c4; simp [wpk_skip, wpk_seq, k_cond, wpk_block, wpk_exit, wpk_ret, wpk_goto, wpk_label, wpk_loop, k_ops, k_draw0, t_nil, t_cons, KT_eq, KD_eq, wpo_nil, k_cons, k_step, mt_some, mtk_some, KO_eq, KP_eq, K_normal, K_ret, K_exit, KB_normal, KB_ret, KB_exit, KL_normal, KL_ret, KL_exit, K_goto, KB_goto, KL_goto, KS_goto, KS_ret, KS_normal, KS_exit, k_ret, k_normal, stepE, isCall, calleeE, opE, wantE, odE, odS, odL, odSL, fget, fput, initE, keepF, List.map_cons, List.map_nil, binE, intOp, strOp, shOp, unE, eqpE, eqnE, neqB, ressE, resE, packL, packE, flat1, fcells, fillE, setL, cellsOf_bind, cellsO_own, cellsO_ro, lenE_sl, lenE_nils, lenE_sl0, bound, rep, minE, maxE, Option.getD_some, Option.getD_none, isKey, nlS, List.getElem?_cons_zero, List.getElem?_cons_succ, get_lt, set_lt, get_len, get_len_add, set_len, set_len_add, List.append_assoc, List.cons_append, List.nil_append, -getElem?_pos, b41, s41_2, s41_1]
  by_cases c5 : f = 80
  · subst c5; simp [wpk_skip, wpk_seq, k_cond, wpk_block, wpk_exit, wpk_ret, wpk_goto, wpk_label, wpk_loop, k_ops, k_draw0, t_nil, t_cons, KT_eq, KD_eq, wpo_nil, k_cons, k_step, mt_some, mtk_some, KO_eq, KP_eq, K_normal, K_ret, K_exit, KB_normal, KB_ret, KB_exit, KL_normal, KL_ret, KL_exit, K_goto, KB_goto, KL_goto, KS_goto, KS_ret, KS_normal, KS_exit, k_ret, k_normal, stepE, isCall, calleeE, opE, wantE, odE, odS, odL, odSL, fget, fput, initE, keepF, List.map_cons, List.map_nil, binE, intOp, strOp, shOp, unE, eqpE, eqnE, neqB, ressE, resE, packL, packE, flat1, fcells, fillE, setL, cellsOf_bind, cellsO_own, cellsO_ro, lenE_sl, lenE_nils, lenE_sl0, bound, rep, minE, maxE, Option.getD_some, Option.getD_none, isKey, nlS, List.getElem?_cons_zero, List.getElem?_cons_succ, get_lt, set_lt, get_len, get_len_add, set_len, set_len_add, List.append_assoc, List.cons_append, List.nil_append, -getElem?_pos, b41, s41_2, s41_1]
  by_cases c6 : f = 65
  · subst c6; simp [wpk_skip, wpk_seq, k_cond, wpk_block, wpk_exit, wpk_ret, wpk_goto, wpk_label, wpk_loop, k_ops, k_draw0, t_nil, t_cons, KT_eq, KD_eq, wpo_nil, k_cons, k_step, mt_some, mtk_some, KO_eq, KP_eq, K_normal, K_ret, K_exit, KB_normal, KB_ret, KB_exit, KL_normal, KL_ret, KL_exit, K_goto, KB_goto, KL_goto, KS_goto, KS_ret, KS_normal, KS_exit, k_ret, k_normal, stepE, isCall, calleeE, opE, wantE, odE, odS, odL, odSL, fget, fput, initE, keepF, List.map_cons, List.map_nil, binE, intOp, strOp, shOp, unE, eqpE, eqnE, neqB, ressE, resE, packL, packE, flat1, fcells, fillE, setL, cellsOf_bind, cellsO_own, cellsO_ro, lenE_sl, lenE_nils, lenE_sl0, bound, rep, minE, maxE, Option.getD_some, Option.getD_none, isKey, nlS, List.getElem?_cons_zero, List.getElem?_cons_succ, get_lt, set_lt, get_len, get_len_add, set_len, set_len_add, List.append_assoc, List.cons_append, List.nil_append, -getElem?_pos, b41, s41_2, s41_1]
  by_cases c7 : f = 82
  · subst c7; simp [wpk_skip, wpk_seq, k_cond, wpk_block, wpk_exit, wpk_ret, wpk_goto, wpk_label, wpk_loop, k_ops, k_draw0, t_nil, t_cons, KT_eq, KD_eq, wpo_nil, k_cons, k_step, mt_some, mtk_some, KO_eq, KP_eq, K_normal, K_ret, K_exit, KB_normal, KB_ret, KB_exit, KL_normal, KL_ret, KL_exit, K_goto, KB_goto, KL_goto, KS_goto, KS_ret, KS_normal, KS_exit, k_ret, k_normal, stepE, isCall, calleeE, opE, wantE, odE, odS, odL, odSL, fget, fput, initE, keepF, List.map_cons, List.map_nil, binE, intOp, strOp, shOp, unE, eqpE, eqnE, neqB, ressE, resE, packL, packE, flat1, fcells, fillE, setL, cellsOf_bind, cellsO_own, cellsO_ro, lenE_sl, lenE_nils, lenE_sl0, bound, rep, minE, maxE, Option.getD_some, Option.getD_none, isKey, nlS, List.getElem?_cons_zero, List.getElem?_cons_succ, get_lt, set_lt, get_len, get_len_add, set_len, set_len_add, List.append_assoc, List.cons_append, List.nil_append, -getElem?_pos, b41, s41_2, s41_1]
  have e1 : (f == 67) = false := by simpa using c1
  have e2 : (f == 68) = false := by simpa using c2
  have e3 : (f == 89) = false := by simpa using c3
  have e4 : (f == 90) = false := by simpa using c4
  have e5 : (f == 80) = false := by simpa using c5
  have e6 : (f == 65) = false := by simpa using c6
  have e7 : (f == 82) = false := by simpa using c7
  simp [wpk_skip, wpk_seq, k_cond, wpk_block, wpk_exit, wpk_ret, wpk_goto, wpk_label, wpk_loop, k_ops, k_draw0, t_nil, t_cons, KT_eq, KD_eq, wpo_nil, k_cons, k_step, mt_some, mtk_some, KO_eq, KP_eq, K_normal, K_ret, K_exit, KB_normal, KB_ret, KB_exit, KL_normal, KL_ret, KL_exit, K_goto, KB_goto, KL_goto, KS_goto, KS_ret, KS_normal, KS_exit, k_ret, k_normal, stepE, isCall, calleeE, opE, wantE, odE, odS, odL, odSL, fget, fput, initE, keepF, List.map_cons, List.map_nil, binE, intOp, strOp, shOp, unE, eqpE, eqnE, neqB, ressE, resE, packL, packE, flat1, fcells, fillE, setL, cellsOf_bind, cellsO_own, cellsO_ro, lenE_sl, lenE_nils, lenE_sl0, bound, rep, minE, maxE, Option.getD_some, Option.getD_none, isKey, nlS, List.getElem?_cons_zero, List.getElem?_cons_succ, get_lt, set_lt, get_len, get_len_add, set_len, set_len_add, List.append_assoc, List.cons_append, List.nil_append, -getElem?_pos, b41, s41_2, s41_1, c1, c2, c3, c4, c5, c6, c7, e1, e2, e3, e4, e5, e6, e7]

/-! ### Numbers and texts -/
def num8 (n : Int) : List Int := [n / 72057594037927936 % 256, n / 281474976710656 % 256, n / 1099511627776 % 256, n / 4294967296 % 256, n / 16777216 % 256, n / 65536 % 256, n / 256 % 256, n % 256]
def bytesT (s : ByteArray) : List Int := s.data.toList.map fun b => (b.toNat : Int)
theorem bytesT_cells (s : ByteArray) : strCells s = (bytesT s).flatMap encB := by
  rw [encB_flat]
  unfold strCells bytesT
  rw [List.map_map]; rfl
theorem bytesT_len (s : ByteArray) : (bytesT s).length = s.size := by simp [bytesT]

theorem number_ok (n : Int) (h : LH) : WPc C 40 [.s (.int .i64 n)] h fun u h' => Gr h h' ∧ ∃ w, u = .s w ∧ Ow h.length h' 5 encB w (num8 n) := by
  refine WPc.post fun Ψ hΨ => ?_
  refine WPc.intro (e := e40) rfl (by simp [e40]) ?_
  show WPk C b40 _ _ (KR [.tmp 2] _)
  simp [wpk_skip, wpk_seq, k_cond, wpk_block, wpk_exit, wpk_ret, wpk_goto, wpk_label, wpk_loop, k_ops, k_draw0, t_nil, t_cons, KT_eq, KD_eq, wpo_nil, k_cons, k_step, mt_some, mtk_some, KO_eq, KP_eq, K_normal, K_ret, K_exit, KB_normal, KB_ret, KB_exit, KL_normal, KL_ret, KL_exit, K_goto, KB_goto, KL_goto, KS_goto, KS_ret, KS_normal, KS_exit, k_ret, k_normal, stepE, isCall, calleeE, opE, wantE, odE, odS, odL, odSL, fget, fput, initE, keepF, List.map_cons, List.map_nil, binE, intOp, strOp, shOp, unE, eqpE, eqnE, neqB, ressE, resE, packL, packE, flat1, fcells, fillE, setL, cellsOf_bind, cellsO_own, cellsO_ro, lenE_sl, lenE_nils, lenE_sl0, bound, rep, minE, maxE, Option.getD_some, Option.getD_none, isKey, nlS, List.getElem?_cons_zero, List.getElem?_cons_succ, get_lt, set_lt, get_len, get_len_add, set_len, set_len_add, List.append_assoc, List.cons_append, List.nil_append, -getElem?_pos, b40, s40_3, s40_2, s40_1]
  refine WPl.inv2 (fun m fr h' => Gr h h' ∧ ∃ k w, k ≤ 8 ∧ m = 8 - k ∧ Ow h.length h' 5 encB w ((num8 n).take k) ∧ fr = [(0, some (.s (.int .i64 n))), (3, some (.s w)), (4, some (.s (.int .i64 (56 - 8 * k))))]) ?_ _ _ _ ⟨Gr.refl _, 0, .nils, by omega, rfl, Ow.nil _ _, rfl⟩
  rintro I hI m fr h' ⟨gr, k, w, hk, rfl, ow, rfl⟩
  refine ⟨by simp [keepF, fget], ?_⟩
  by_cases hlt : k < 8
  · have g0 : (56 : Int) - 8 * k ≥ 0 := by omega
    have g1 : ¬ (56 : Int) - 8 * k < 0 := by omega
    have g2 : 8 * (k : Int) ≤ 56 := by omega
    have w3 : IntKind.i64.wrap (56 - 8 * (k : Int) - 8) = 56 - 8 * ((k + 1 : Nat) : Int) := by rw [wrap_small (by omega) (by omega)]; omega
    have hl : ((num8 n).take k).length = k := by rw [List.length_take]; simp [num8]; omega
    have hA := ow.app1 (y := 1) encB_len (by omega)
    obtain ⟨x, hx⟩ : ∃ x, (num8 n)[k]? = some x := ⟨_, List.getElem?_eq_getElem (by simp [num8]; omega)⟩
    have hx' : IntKind.u8.wrap (n.fdiv (2 ^ min ((56 : Int) - 8 * k).toNat IntKind.i64.bits)) = x := by
      have h : k = 0 ∨ k = 1 ∨ k = 2 ∨ k = 3 ∨ k = 4 ∨ k = 5 ∨ k = 6 ∨ k = 7 := by omega
      rcases h with rfl | rfl | rfl | rfl | rfl | rfl | rfl | rfl <;> (simp [num8] at hx; simp [IntKind.wrap, IntKind.bits, IntKind.signed, Int.fdiv_eq_ediv]; omega)
    have ht : (num8 n).take (k + 1) = (num8 n).take k ++ [x] := by
      rw [List.take_add_one, hx]; rfl
    obtain ⟨f1, f2⟩ := Ow.step gr ow x [LO.own 5 [.int .u8 x]] (n := ((num8 n).take k).length + 1) (cs := [.int .u8 x]) (m := 1) rfl rfl rfl
    rw [← ht, hl] at f2
    rw [hl] at hA
    simp [wpk_skip, wpk_seq, k_cond, wpk_block, wpk_exit, wpk_ret, wpk_goto, wpk_label, wpk_loop, k_ops, k_draw0, t_nil, t_cons, KT_eq, KD_eq, wpo_nil, k_cons, k_step, mt_some, mtk_some, KO_eq, KP_eq, K_normal, K_ret, K_exit, KB_normal, KB_ret, KB_exit, KL_normal, KL_ret, KL_exit, K_goto, KB_goto, KL_goto, KS_goto, KS_ret, KS_normal, KS_exit, k_ret, k_normal, stepE, isCall, calleeE, opE, wantE, odE, odS, odL, odSL, fget, fput, initE, keepF, List.map_cons, List.map_nil, binE, intOp, strOp, shOp, unE, eqpE, eqnE, neqB, ressE, resE, packL, packE, flat1, fcells, fillE, setL, cellsOf_bind, cellsO_own, cellsO_ro, lenE_sl, lenE_nils, lenE_sl0, bound, rep, minE, maxE, Option.getD_some, Option.getD_none, isKey, nlS, List.getElem?_cons_zero, List.getElem?_cons_succ, get_lt, set_lt, get_len, get_len_add, set_len, set_len_add, List.append_assoc, List.cons_append, List.nil_append, -getElem?_pos, l40_0_1, l40_0, g0, g1, g2, hx', shOp, elems, hA, w3]
    exact ⟨_, by omega, hI _ _ _ ⟨f1, k + 1, _, by omega, rfl, f2, rfl⟩⟩
  · obtain rfl : k = 8 := by omega
    simp [wpk_skip, wpk_seq, k_cond, wpk_block, wpk_exit, wpk_ret, wpk_goto, wpk_label, wpk_loop, k_ops, k_draw0, t_nil, t_cons, KT_eq, KD_eq, wpo_nil, k_cons, k_step, mt_some, mtk_some, KO_eq, KP_eq, K_normal, K_ret, K_exit, KB_normal, KB_ret, KB_exit, KL_normal, KL_ret, KL_exit, K_goto, KB_goto, KL_goto, KS_goto, KS_ret, KS_normal, KS_exit, k_ret, k_normal, stepE, isCall, calleeE, opE, wantE, odE, odS, odL, odSL, fget, fput, initE, keepF, List.map_cons, List.map_nil, binE, intOp, strOp, shOp, unE, eqpE, eqnE, neqB, ressE, resE, packL, packE, flat1, fcells, fillE, setL, cellsOf_bind, cellsO_own, cellsO_ro, lenE_sl, lenE_nils, lenE_sl0, bound, rep, minE, maxE, Option.getD_some, Option.getD_none, isKey, nlS, List.getElem?_cons_zero, List.getElem?_cons_succ, get_lt, set_lt, get_len, get_len_add, set_len, set_len_add, List.append_assoc, List.cons_append, List.nil_append, -getElem?_pos, l40_0_1, l40_0]
    exact hΨ _ _ ⟨gr, w, rfl, ow⟩
theorem u8_ne {b c : UInt8} (h : b ≠ c) : ((b.toNat : Nat) : Int) ≠ ((c.toNat : Nat) : Int) := fun e => h (UInt8.toNat_inj.1 (by omega))
def textB (s : ByteArray) : List Int := (s.size : Int) :: bytesT s
theorem text_ok (s : ByteArray) (hs : s.size ≤ 255) (h : LH) : WPc C 39 [.s (.str s)] h fun u h' => Gr h h' ∧ ∃ w, u = .s w ∧ Ow h.length h' 5 encB w (textB s) := by
  refine WPc.post fun Ψ hΨ => ?_
  refine WPc.intro (e := e39) rfl (by simp [e39]) ?_
  show WPk C b39 _ _ (KR [.tmp 2] _)
  have w1 : IntKind.u8.wrap (s.size : Int) = s.size := by simp [IntKind.wrap, IntKind.bits, IntKind.signed]; omega
  by_cases h0 : s.size = 0
  · have e : bytesT s = [] := List.eq_nil_of_length_eq_zero (by rw [bytesT_len]; exact h0)
    have e : textB s = [0] := by unfold textB; rw [e, h0]; rfl
    rw [e] at hΨ
    simp [wpk_skip, wpk_seq, k_cond, wpk_block, wpk_exit, wpk_ret, wpk_goto, wpk_label, wpk_loop, k_ops, k_draw0, t_nil, t_cons, KT_eq, KD_eq, wpo_nil, k_cons, k_step, mt_some, mtk_some, KO_eq, KP_eq, K_normal, K_ret, K_exit, KB_normal, KB_ret, KB_exit, KL_normal, KL_ret, KL_exit, K_goto, KB_goto, KL_goto, KS_goto, KS_ret, KS_normal, KS_exit, k_ret, k_normal, stepE, isCall, calleeE, opE, wantE, odE, odS, odL, odSL, fget, fput, initE, keepF, List.map_cons, List.map_nil, binE, intOp, strOp, shOp, unE, eqpE, eqnE, neqB, ressE, resE, packL, packE, flat1, fcells, fillE, setL, cellsOf_bind, cellsO_own, cellsO_ro, lenE_sl, lenE_nils, lenE_sl0, bound, rep, minE, maxE, Option.getD_some, Option.getD_none, isKey, nlS, List.getElem?_cons_zero, List.getElem?_cons_succ, get_lt, set_lt, get_len, get_len_add, set_len, set_len_add, List.append_assoc, List.cons_append, List.nil_append, -getElem?_pos, b39, s39_1, w1, h0, appE_zero_sl]
    refine hΨ _ _ ⟨Gr.self _ _, _, rfl, .inr ⟨h.length, Nat.le_refl _, rfl, ?_⟩⟩
    rw [get_len]; rfl
  · have hA := appE_own (h := h ++ [.own 5 [.int .u8 s.size]]) (t := 5) (z := 1) (y := 1) (i := h.length) (p := 0) (o := 0) (m := 1) (n := s.size) (vs := [.int .u8 s.size]) (new := strCells s) get_len h0 (by simp) (by omega)
    simp only [Nat.zero_mul, List.drop_zero, Nat.one_mul, List.take_succ_cons, List.take_zero] at hA
    simp [wpk_skip, wpk_seq, k_cond, wpk_block, wpk_exit, wpk_ret, wpk_goto, wpk_label, wpk_loop, k_ops, k_draw0, t_nil, t_cons, KT_eq, KD_eq, wpo_nil, k_cons, k_step, mt_some, mtk_some, KO_eq, KP_eq, K_normal, K_ret, K_exit, KB_normal, KB_ret, KB_exit, KL_normal, KL_ret, KL_exit, K_goto, KB_goto, KL_goto, KS_goto, KS_ret, KS_normal, KS_exit, k_ret, k_normal, stepE, isCall, calleeE, opE, wantE, odE, odS, odL, odSL, fget, fput, initE, keepF, List.map_cons, List.map_nil, binE, intOp, strOp, shOp, unE, eqpE, eqnE, neqB, ressE, resE, packL, packE, flat1, fcells, fillE, setL, cellsOf_bind, cellsO_own, cellsO_ro, lenE_sl, lenE_nils, lenE_sl0, bound, rep, minE, maxE, Option.getD_some, Option.getD_none, isKey, nlS, List.getElem?_cons_zero, List.getElem?_cons_succ, get_lt, set_lt, get_len, get_len_add, set_len, set_len_add, List.append_assoc, List.cons_append, List.nil_append, -getElem?_pos, b39, s39_1, w1, hA]
    refine hΨ _ _ ⟨Gr.self _ _, _, rfl, .inr ⟨h.length + 1, by omega, ?_, ?_⟩⟩
    · simp [textB, bytesT_len]; omega
    · rw [get_len_add]; unfold textB; rw [List.flatMap_cons, ← bytesT_cells]; rfl

/-! ### A command as bytes -/
theorem Ow.kill_get {α : Type} {enc : α → List SV} {b t i : Nat} {h : LH} {v : SV} {l : List α} {o : LO} (r : Ow b h t enc v l) (hi : h[i]? = some o) (hne : ∀ vs, o ≠ .own t vs) (q s : LH) : (kill v (h ++ q) ++ s)[i]? = some o := by
  have hl := lt_of_some hi
  rw [List.getElem?_append_left (by rw [kill_len, List.length_append]; omega)]
  rcases r with ⟨_, rfl⟩ | ⟨j, r1, rfl, r3⟩
  · show (h ++ q)[i]? = _
    rw [get_lt hl]; exact hi
  · show ((h ++ q).set j _)[i]? = _
    have hji : j ≠ i := fun e => by
      subst e
      exact hne _ (Option.some.inj (hi.symm.trans r3))
    rw [get_ne hji, get_lt hl]; exact hi
theorem Ow.set_get {α : Type} {enc : α → List SV} {b t i : Nat} {h : LH} {v : SV} {l : List α} {o x : LO} (r : Ow b h t enc v l) (hi : h[i]? = some o) (hne : ∀ vs, o ≠ .own t vs) : Ow b (h.set i x) t enc v l := by
  rcases r with r | ⟨j, r1, r2, r3⟩
  · exact .inl r
  · refine .inr ⟨j, r1, r2, ?_⟩
    have hji : i ≠ j := fun e => by
      subst e
      exact hne _ (Option.some.inj (hi.symm.trans r3))
    rw [get_ne hji]; exact r3

def numOf (m : Cm) (f : Int) : Int := if f = 67 then m.c else if f = 68 then m.d else if f = 89 then m.y else if f = 90 then m.z else if f = 80 then m.p else if f = 65 then m.n else if f = 82 then m.r else m.x
theorem num_at (m : Cm) (f : Int) : (encC m)[placeN f]? = some (.int .i64 (numOf m f)) := by
  unfold placeN numOf
  repeat' split
  all_goals rfl
def packF (m : Cm) (f : UInt8) : List Int := if f = 73 then textB m.a else if f = 75 then textB m.b else if f = 74 then textB m.j else num8 (numOf m f.toNat)
def packC (m : Cm) : List Int := m.k % 256 :: (fieldsL m.k).flatMap (packF m)
theorem fields_ascii (k : Int) : ∀ b ∈ fieldsL k, b.toNat < 128 := by
  have h : (fieldsL k).all (fun b => decide (b.toNat < 128)) = true := by
    unfold fieldsL
    repeat' split
    all_goals rfl
  exact fun b hb => of_decide_eq_true (List.all_eq_true.1 h b hb)
theorem fields_len (k : Int) : (fieldsL k).length ≤ 6 := by
  unfold fieldsL
  repeat' split
  all_goals decide
theorem fields_data (k : Int) : (fieldsB k).data.toList = fieldsL k := rfl
/-- Texts of at most 255 letters. -/
def Short (m : Cm) : Prop := m.a.size ≤ 255 ∧ m.b.size ≤ 255 ∧ m.j.size ≤ 255
theorem packF_len (m : Cm) (hm : Short m) (f : UInt8) : (packF m f).length ≤ 256 ∧ packF m f ≠ [] := by
  unfold packF textB
  repeat' split
  all_goals simp [bytesT_len, num8]
  · exact hm.1
  · exact hm.2.1
  · exact hm.2.2
theorem flat_le (m : Cm) (hm : Short m) : ∀ l : List UInt8, (l.flatMap (packF m)).length ≤ 256 * l.length
  | [] => by simp
  | f :: l => by
    rw [List.flatMap_cons, List.length_append, List.length_cons]
    have := (packF_len m hm f).1
    have := flat_le m hm l
    omega

set_option maxRecDepth 20000 in
set_option maxHeartbeats 4000000 in
theorem pack_ok (m : Cm) (hm : Short m) (h : LH) : WPc C 24 [.agg (encC m)] h fun u h' => Gr h h' ∧ ∃ w, u = .s w ∧ Ow h.length h' 5 encB w (packC m) := by
  refine WPc.post fun Ψ hΨ => ?_
  refine WPc.intro (e := e24) rfl (by simp [e24]) ?_
  show WPk C b24 _ _ (KR [.tmp 2] _)
  have wk : IntKind.u8.wrap m.k = m.k % 256 := by simp [IntKind.wrap, IntKind.bits, IntKind.signed]
  have e0 : (encC m)[0]? = some (.int .i64 m.k) := rfl
  have el : (encC m).length = 12 := rfl
  simp [wpk_skip, wpk_seq, k_cond, wpk_block, wpk_exit, wpk_ret, wpk_goto, wpk_label, wpk_loop, k_ops, k_draw0, t_nil, t_cons, KT_eq, KD_eq, wpo_nil, k_cons, k_step, mt_some, mtk_some, KO_eq, KP_eq, K_normal, K_ret, K_exit, KB_normal, KB_ret, KB_exit, KL_normal, KL_ret, KL_exit, K_goto, KB_goto, KL_goto, KS_goto, KS_ret, KS_normal, KS_exit, k_ret, k_normal, stepE, isCall, calleeE, opE, wantE, odE, odS, odL, odSL, fget, fput, initE, keepF, List.map_cons, List.map_nil, binE, intOp, strOp, shOp, unE, eqpE, eqnE, neqB, ressE, resE, packL, packE, flat1, fcells, fillE, setL, cellsOf_bind, cellsO_own, cellsO_ro, lenE_sl, lenE_nils, lenE_sl0, bound, rep, minE, maxE, Option.getD_some, Option.getD_none, isKey, nlS, List.getElem?_cons_zero, List.getElem?_cons_succ, get_lt, set_lt, get_len, get_len_add, set_len, set_len_add, List.append_assoc, List.cons_append, List.nil_append, -getElem?_pos, b24, s24_3, s24_2, s24_1, el, e0, wk, fields_ok]
  refine WPl.inv2 (fun n fr h' => Gr h h' ∧ ∃ k w, k ≤ (fieldsL m.k).length ∧ n = (fieldsL m.k).length - k ∧ h'[h.length]? = some (.own 23 (encC m)) ∧ h'[h.length + 2]? = some (.iter (fieldsB m.k) k) ∧
    Ow h.length h' 5 encB w (m.k % 256 :: ((fieldsL m.k).take k).flatMap (packF m)) ∧ fr = [(1, some (.s (.ptr h.length 0))), (3, some (.s w)), (14, some (.s (.ptr (h.length + 2) 0)))]) ?_ _ _ _ ⟨Gr.self _ _, 0, _, Nat.zero_le _, rfl, get_len, get_len_add, .inr ⟨h.length + 1, by omega, rfl, get_len_add⟩, rfl⟩
  rintro I hI n fr h' ⟨gr, k, w, hk, rfl, ho, hit, ow, rfl⟩
  refine ⟨by simp [keepF, fget], ?_⟩
  by_cases hlt : k < (fieldsL m.k).length
  · obtain ⟨b, hb⟩ : ∃ b, (fieldsL m.k)[k]? = some b := ⟨_, List.getElem?_eq_getElem hlt⟩
    have hb' : (fieldsB m.k).data.toList[k]? = some b := by rw [fields_data]; exact hb
    have ha := fields_ascii m.k b (List.mem_of_getElem? hb)
    have ht : (fieldsL m.k).take (k + 1) = (fieldsL m.k).take k ++ [b] := by rw [List.take_add_one, hb]; rfl
    have hl6 := fields_len m.k
    have hlen := flat_le m hm ((fieldsL m.k).take k)
    have hlt6 : ((fieldsL m.k).take k).length ≤ 6 := by rw [List.length_take]; omega
    have hil := lt_of_some hit
    have ho2 : (h'.set (h.length + 2) (.iter (fieldsB m.k) (k + 1)))[h.length]? = some (.own 23 (encC m)) := by rw [get_ne (by omega)]; exact ho
    have hit2 : (h'.set (h.length + 2) (.iter (fieldsB m.k) (k + 1)))[h.length + 2]? = some (.iter (fieldsB m.k) (k + 1)) := get_self hil
    have ow2 : Ow h.length (h'.set (h.length + 2) (.iter (fieldsB m.k) (k + 1))) 5 encB w (m.k % 256 :: ((fieldsL m.k).take k).flatMap (packF m)) := Ow.set_get ow hit (fun vs e => by cases e)
    have gr2 : Gr h (h'.set (h.length + 2) (.iter (fieldsB m.k) (k + 1))) := gr.set _ (by omega)
    generalize hH : h'.set (h.length + 2) (.iter (fieldsB m.k) (k + 1)) = H at *
    -- what is appended
    have fin : ∀ (L : List Int) (w2 : SV) (h1 : LH), L ≠ [] → L.length ≤ 256 → packF m b = L → Gr H h1 → Ow H.length h1 5 encB w2 L →
        ∃ (x : SV) (h2 : LH), appE h1 5 1 1 w L.length (L.flatMap encB) = some (.s x, h2) ∧ ∃ n', n' < (fieldsL m.k).length - k ∧ I n' [(1, some (.s (.ptr h.length 0))), (3, some (.s x)), (14, some (.s (.ptr (h.length + 2) 0)))] h2 := by
      intro L w2 h1 hne hle hL g1 ow3
      have ow4 := ow2.gr g1
      have hA := ow4.app (z := 1) encB_len (n := L.length) (y := 1) (by simpa using hne) (by rw [List.length_cons]; omega) (L.flatMap encB) []
      rw [List.append_nil] at hA
      refine ⟨_, _, hA, _, by omega, hI _ _ _ ⟨?_, k + 1, _, by omega, rfl, ?_, ?_, ?_, rfl⟩⟩
      · have := kill_gr (gr2.trans g1) ow4
        exact this.app _
      · have := Ow.kill_get ow4 (g1.get ho2) (fun vs e => by cases e) [] [LO.own 5 ((m.k % 256 :: ((fieldsL m.k).take k).flatMap (packF m)).flatMap encB ++ L.flatMap encB)]
        rwa [List.append_nil] at this
      · have := Ow.kill_get ow4 (g1.get hit2) (fun vs e => by cases e) [] [LO.own 5 ((m.k % 256 :: ((fieldsL m.k).take k).flatMap (packF m)).flatMap encB ++ L.flatMap encB)]
        rwa [List.append_nil] at this
      · rw [ht, List.flatMap_append, List.flatMap_singleton, hL, ← List.cons_append]
        exact Ow.next (v := w) (gr2.trans g1).le (by simp)
    have hp := packF_len m hm b
    by_cases c1 : b = 73
    · subst c1
      have q1 : wordV h.length 73 = .ptr h.length 1 := rfl
      have e1 : (encC m)[1]? = some (.str m.a) := rfl
      simp [wpk_skip, wpk_seq, k_cond, wpk_block, wpk_exit, wpk_ret, wpk_goto, wpk_label, wpk_loop, k_ops, k_draw0, t_nil, t_cons, KT_eq, KD_eq, wpo_nil, k_cons, k_step, mt_some, mtk_some, KO_eq, KP_eq, K_normal, K_ret, K_exit, KB_normal, KB_ret, KB_exit, KL_normal, KL_ret, KL_exit, K_goto, KB_goto, KL_goto, KS_goto, KS_ret, KS_normal, KS_exit, k_ret, k_normal, stepE, isCall, calleeE, opE, wantE, odE, odS, odL, odSL, fget, fput, initE, keepF, List.map_cons, List.map_nil, binE, intOp, strOp, shOp, unE, eqpE, eqnE, neqB, ressE, resE, packL, packE, flat1, fcells, fillE, setL, cellsOf_bind, cellsO_own, cellsO_ro, lenE_sl, lenE_nils, lenE_sl0, bound, rep, minE, maxE, Option.getD_some, Option.getD_none, isKey, nlS, List.getElem?_cons_zero, List.getElem?_cons_succ, get_lt, set_lt, get_len, get_len_add, set_len, set_len_add, List.append_assoc, List.cons_append, List.nil_append, -getElem?_pos, l24_0_1, l24_0, hit, hb', hH, word_ok, q1, ho2, e1]
      refine WPc.go (text_ok m.a hm.1 _) ?_
      rintro _ h1 ⟨g1, w2, rfl, ow3⟩
      obtain ⟨x, h2, hx, hfin⟩ := fin (textB m.a) w2 h1 hp.2 (hp.1) rfl g1 ow3
      have hr := ow3.rd encB_len (z := 1)
      simp [wpk_skip, wpk_seq, k_cond, wpk_block, wpk_exit, wpk_ret, wpk_goto, wpk_label, wpk_loop, k_ops, k_draw0, t_nil, t_cons, KT_eq, KD_eq, wpo_nil, k_cons, k_step, mt_some, mtk_some, KO_eq, KP_eq, K_normal, K_ret, K_exit, KB_normal, KB_ret, KB_exit, KL_normal, KL_ret, KL_exit, K_goto, KB_goto, KL_goto, KS_goto, KS_ret, KS_normal, KS_exit, k_ret, k_normal, stepE, isCall, calleeE, opE, wantE, odE, odS, odL, odSL, fget, fput, initE, keepF, List.map_cons, List.map_nil, binE, intOp, strOp, shOp, unE, eqpE, eqnE, neqB, ressE, resE, packL, packE, flat1, fcells, fillE, setL, cellsOf_bind, cellsO_own, cellsO_ro, lenE_sl, lenE_nils, lenE_sl0, bound, rep, minE, maxE, Option.getD_some, Option.getD_none, isKey, nlS, List.getElem?_cons_zero, List.getElem?_cons_succ, get_lt, set_lt, get_len, get_len_add, set_len, set_len_add, List.append_assoc, List.cons_append, List.nil_append, -getElem?_pos, hr.len, hr.elems, hx]
      exact hfin
    by_cases c2 : b = 75
    · subst c2
      have q1 : wordV h.length 75 = .ptr h.length 2 := rfl
      have e1 : (encC m)[2]? = some (.str m.b) := rfl
      simp [wpk_skip, wpk_seq, k_cond, wpk_block, wpk_exit, wpk_ret, wpk_goto, wpk_label, wpk_loop, k_ops, k_draw0, t_nil, t_cons, KT_eq, KD_eq, wpo_nil, k_cons, k_step, mt_some, mtk_some, KO_eq, KP_eq, K_normal, K_ret, K_exit, KB_normal, KB_ret, KB_exit, KL_normal, KL_ret, KL_exit, K_goto, KB_goto, KL_goto, KS_goto, KS_ret, KS_normal, KS_exit, k_ret, k_normal, stepE, isCall, calleeE, opE, wantE, odE, odS, odL, odSL, fget, fput, initE, keepF, List.map_cons, List.map_nil, binE, intOp, strOp, shOp, unE, eqpE, eqnE, neqB, ressE, resE, packL, packE, flat1, fcells, fillE, setL, cellsOf_bind, cellsO_own, cellsO_ro, lenE_sl, lenE_nils, lenE_sl0, bound, rep, minE, maxE, Option.getD_some, Option.getD_none, isKey, nlS, List.getElem?_cons_zero, List.getElem?_cons_succ, get_lt, set_lt, get_len, get_len_add, set_len, set_len_add, List.append_assoc, List.cons_append, List.nil_append, -getElem?_pos, l24_0_1, l24_0, hit, hb', hH, word_ok, q1, ho2, e1]
      refine WPc.go (text_ok m.b hm.2.1 _) ?_
      rintro _ h1 ⟨g1, w2, rfl, ow3⟩
      obtain ⟨x, h2, hx, hfin⟩ := fin (textB m.b) w2 h1 hp.2 (hp.1) rfl g1 ow3
      have hr := ow3.rd encB_len (z := 1)
      simp [wpk_skip, wpk_seq, k_cond, wpk_block, wpk_exit, wpk_ret, wpk_goto, wpk_label, wpk_loop, k_ops, k_draw0, t_nil, t_cons, KT_eq, KD_eq, wpo_nil, k_cons, k_step, mt_some, mtk_some, KO_eq, KP_eq, K_normal, K_ret, K_exit, KB_normal, KB_ret, KB_exit, KL_normal, KL_ret, KL_exit, K_goto, KB_goto, KL_goto, KS_goto, KS_ret, KS_normal, KS_exit, k_ret, k_normal, stepE, isCall, calleeE, opE, wantE, odE, odS, odL, odSL, fget, fput, initE, keepF, List.map_cons, List.map_nil, binE, intOp, strOp, shOp, unE, eqpE, eqnE, neqB, ressE, resE, packL, packE, flat1, fcells, fillE, setL, cellsOf_bind, cellsO_own, cellsO_ro, lenE_sl, lenE_nils, lenE_sl0, bound, rep, minE, maxE, Option.getD_some, Option.getD_none, isKey, nlS, List.getElem?_cons_zero, List.getElem?_cons_succ, get_lt, set_lt, get_len, get_len_add, set_len, set_len_add, List.append_assoc, List.cons_append, List.nil_append, -getElem?_pos, hr.len, hr.elems, hx]
      exact hfin
    by_cases c3 : b = 74
    · subst c3
      have q1 : wordV h.length 74 = .ptr h.length 3 := rfl
      have e1 : (encC m)[3]? = some (.str m.j) := rfl
      simp [wpk_skip, wpk_seq, k_cond, wpk_block, wpk_exit, wpk_ret, wpk_goto, wpk_label, wpk_loop, k_ops, k_draw0, t_nil, t_cons, KT_eq, KD_eq, wpo_nil, k_cons, k_step, mt_some, mtk_some, KO_eq, KP_eq, K_normal, K_ret, K_exit, KB_normal, KB_ret, KB_exit, KL_normal, KL_ret, KL_exit, K_goto, KB_goto, KL_goto, KS_goto, KS_ret, KS_normal, KS_exit, k_ret, k_normal, stepE, isCall, calleeE, opE, wantE, odE, odS, odL, odSL, fget, fput, initE, keepF, List.map_cons, List.map_nil, binE, intOp, strOp, shOp, unE, eqpE, eqnE, neqB, ressE, resE, packL, packE, flat1, fcells, fillE, setL, cellsOf_bind, cellsO_own, cellsO_ro, lenE_sl, lenE_nils, lenE_sl0, bound, rep, minE, maxE, Option.getD_some, Option.getD_none, isKey, nlS, List.getElem?_cons_zero, List.getElem?_cons_succ, get_lt, set_lt, get_len, get_len_add, set_len, set_len_add, List.append_assoc, List.cons_append, List.nil_append, -getElem?_pos, l24_0_1, l24_0, hit, hb', hH, word_ok, q1, ho2, e1]
      refine WPc.go (text_ok m.j hm.2.2 _) ?_
      rintro _ h1 ⟨g1, w2, rfl, ow3⟩
      obtain ⟨x, h2, hx, hfin⟩ := fin (textB m.j) w2 h1 hp.2 (hp.1) rfl g1 ow3
      have hr := ow3.rd encB_len (z := 1)
      simp [wpk_skip, wpk_seq, k_cond, wpk_block, wpk_exit, wpk_ret, wpk_goto, wpk_label, wpk_loop, k_ops, k_draw0, t_nil, t_cons, KT_eq, KD_eq, wpo_nil, k_cons, k_step, mt_some, mtk_some, KO_eq, KP_eq, K_normal, K_ret, K_exit, KB_normal, KB_ret, KB_exit, KL_normal, KL_ret, KL_exit, K_goto, KB_goto, KL_goto, KS_goto, KS_ret, KS_normal, KS_exit, k_ret, k_normal, stepE, isCall, calleeE, opE, wantE, odE, odS, odL, odSL, fget, fput, initE, keepF, List.map_cons, List.map_nil, binE, intOp, strOp, shOp, unE, eqpE, eqnE, neqB, ressE, resE, packL, packE, flat1, fcells, fillE, setL, cellsOf_bind, cellsO_own, cellsO_ro, lenE_sl, lenE_nils, lenE_sl0, bound, rep, minE, maxE, Option.getD_some, Option.getD_none, isKey, nlS, List.getElem?_cons_zero, List.getElem?_cons_succ, get_lt, set_lt, get_len, get_len_add, set_len, set_len_add, List.append_assoc, List.cons_append, List.nil_append, -getElem?_pos, hr.len, hr.elems, hx]
      exact hfin
    · have n1 : ((b.toNat : Nat) : Int) ≠ 73 := u8_ne c1
      have n2 : ((b.toNat : Nat) : Int) ≠ 75 := u8_ne c2
      have n3 : ((b.toNat : Nat) : Int) ≠ 74 := u8_ne c3
      have q1 : wordV h.length (b.toNat : Int) = .nilp := by unfold wordV; rw [if_neg n1, if_neg n2, if_neg n3]
      have hpf : packF m b = num8 (numOf m (b.toNat : Int)) := by unfold packF; rw [if_neg c1, if_neg c2, if_neg c3]
      have e1 := num_at m (b.toNat : Int)
      rw [hpf] at hp
      obtain ⟨f, hf⟩ : ∃ f, f = ((b.toNat : Nat) : Int) := ⟨_, rfl⟩
      rw [← hf] at q1 hpf e1 hp
      generalize numOf m f = N at *
      simp [wpk_skip, wpk_seq, k_cond, wpk_block, wpk_exit, wpk_ret, wpk_goto, wpk_label, wpk_loop, k_ops, k_draw0, t_nil, t_cons, KT_eq, KD_eq, wpo_nil, k_cons, k_step, mt_some, mtk_some, KO_eq, KP_eq, K_normal, K_ret, K_exit, KB_normal, KB_ret, KB_exit, KL_normal, KL_ret, KL_exit, K_goto, KB_goto, KL_goto, KS_goto, KS_ret, KS_normal, KS_exit, k_ret, k_normal, stepE, isCall, calleeE, opE, wantE, odE, odS, odL, odSL, fget, fput, initE, keepF, List.map_cons, List.map_nil, binE, intOp, strOp, shOp, unE, eqpE, eqnE, neqB, ressE, resE, packL, packE, flat1, fcells, fillE, setL, cellsOf_bind, cellsO_own, cellsO_ro, lenE_sl, lenE_nils, lenE_sl0, bound, rep, minE, maxE, Option.getD_some, Option.getD_none, isKey, nlS, List.getElem?_cons_zero, List.getElem?_cons_succ, get_lt, set_lt, get_len, get_len_add, set_len, set_len_add, List.append_assoc, List.cons_append, List.nil_append, -getElem?_pos, l24_0_1, l24_0, hit, hb', ha, hH, ← hf, word_ok, q1, place_ok, ho2, e1]
      refine WPc.go (number_ok N _) ?_
      rintro _ h1 ⟨g1, w2, rfl, ow3⟩
      obtain ⟨x, h2, hx, hfin⟩ := fin (num8 N) w2 h1 hp.2 (hp.1) hpf g1 ow3
      have hr := ow3.rd encB_len (z := 1)
      simp [wpk_skip, wpk_seq, k_cond, wpk_block, wpk_exit, wpk_ret, wpk_goto, wpk_label, wpk_loop, k_ops, k_draw0, t_nil, t_cons, KT_eq, KD_eq, wpo_nil, k_cons, k_step, mt_some, mtk_some, KO_eq, KP_eq, K_normal, K_ret, K_exit, KB_normal, KB_ret, KB_exit, KL_normal, KL_ret, KL_exit, K_goto, KB_goto, KL_goto, KS_goto, KS_ret, KS_normal, KS_exit, k_ret, k_normal, stepE, isCall, calleeE, opE, wantE, odE, odS, odL, odSL, fget, fput, initE, keepF, List.map_cons, List.map_nil, binE, intOp, strOp, shOp, unE, eqpE, eqnE, neqB, ressE, resE, packL, packE, flat1, fcells, fillE, setL, cellsOf_bind, cellsO_own, cellsO_ro, lenE_sl, lenE_nils, lenE_sl0, bound, rep, minE, maxE, Option.getD_some, Option.getD_none, isKey, nlS, List.getElem?_cons_zero, List.getElem?_cons_succ, get_lt, set_lt, get_len, get_len_add, set_len, set_len_add, List.append_assoc, List.cons_append, List.nil_append, -getElem?_pos, hr.len, hr.elems, hx]
      exact hfin
  · obtain rfl : k = (fieldsL m.k).length := by omega
    have hn : (fieldsB m.k).data.toList[(fieldsL m.k).length]? = none := by rw [fields_data]; exact List.getElem?_eq_none (Nat.le_refl _)
    simp [wpk_skip, wpk_seq, k_cond, wpk_block, wpk_exit, wpk_ret, wpk_goto, wpk_label, wpk_loop, k_ops, k_draw0, t_nil, t_cons, KT_eq, KD_eq, wpo_nil, k_cons, k_step, mt_some, mtk_some, KO_eq, KP_eq, K_normal, K_ret, K_exit, KB_normal, KB_ret, KB_exit, KL_normal, KL_ret, KL_exit, K_goto, KB_goto, KL_goto, KS_goto, KS_ret, KS_normal, KS_exit, k_ret, k_normal, stepE, isCall, calleeE, opE, wantE, odE, odS, odL, odSL, fget, fput, initE, keepF, List.map_cons, List.map_nil, binE, intOp, strOp, shOp, unE, eqpE, eqnE, neqB, ressE, resE, packL, packE, flat1, fcells, fillE, setL, cellsOf_bind, cellsO_own, cellsO_ro, lenE_sl, lenE_nils, lenE_sl0, bound, rep, minE, maxE, Option.getD_some, Option.getD_none, isKey, nlS, List.getElem?_cons_zero, List.getElem?_cons_succ, get_lt, set_lt, get_len, get_len_add, set_len, set_len_add, List.append_assoc, List.cons_append, List.nil_append, -getElem?_pos, l24_0_1, l24_0, hit, hn]
    refine hΨ _ _ ⟨gr, w, rfl, ?_⟩
    rw [List.take_length] at ow
    exact ow
end Go.Proofs.YtbgfcgmbihhlbaaDoor.Ev.CW
