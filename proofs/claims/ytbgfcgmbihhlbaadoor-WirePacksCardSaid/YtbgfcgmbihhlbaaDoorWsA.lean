/- Small numbers as what commands name, on the small machine. -/
import Derived.Test.YtbgfcgmbihhlbaaDoorWrG
set_option linter.unusedSimpArgs false
set_option linter.unusedVariables false
namespace Go.Proofs.YtbgfcgmbihhlbaaDoor.Ev.CW
open Go
open CK (Cm encC fieldsL fieldsB okC cmOf_enc)

theorem tdiv_64 {n : Int} (hn : is64 n) (d : Int) (hd : 1 < d) : IntKind.i64.wrap (n.tdiv d) = n.tdiv d := by
  have a1 : (n.tdiv d).natAbs ≤ n.natAbs := by
    rw [Int.natAbs_tdiv]; exact Nat.div_le_self _ _
  have a2 : n.natAbs ≤ 9223372036854775808 := by unfold is64 at hn; omega
  by_cases e : n = -9223372036854775808
  · have : (n.tdiv d).natAbs < 9223372036854775808 := by
      rw [Int.natAbs_tdiv]
      exact Nat.div_lt_of_lt_mul (by have : n.natAbs = 9223372036854775808 := by omega
                                     rw [this]; omega)
    exact wrap_small (by omega) (by omega)
  · have : n.natAbs < 9223372036854775808 := by unfold is64 at hn; omega
    exact wrap_small (by omega) (by omega)

theorem wrap_64 (n : Int) : is64 (IntKind.i64.wrap n) := by
  unfold is64
  simp [IntKind.wrap, IntKind.bits, IntKind.signed]; omega

theorem within_ok (v n : Int) (hn : 1 ≤ n ∧ n ≤ 1000000000000) (h : LH) : callX C 18 [.s (.int .i64 v), .s (.int .i64 n)] h = some (.s (.int .i64 (v % n)), h) := by
  apply callX_wp
  refine WPc.intro (e := e18) rfl (by simp [e18]) ?_
  show WPk C b18 _ _ (KR [.tmp 4] _)
  have h1 : ¬ (n < 1) := by omega
  have h2 : ¬ (n = 0) := by omega
  have q1 := Int.tmod_lt_of_pos v (show 0 < n by omega)
  have q2 := Int.lt_tmod_of_pos v (show 0 < n by omega)
  have key : v.tmod n = if v.tmod n < 0 then v % n - n else v % n := by
    have e : v % n = (v.tmod n) % n := by
      have h := Int.mul_tdiv_add_tmod v n
      calc v % n = (n * v.tdiv n + v.tmod n) % n := by rw [h]
        _ = (v.tmod n) % n := by rw [Int.add_comm, Int.add_mul_emod_self_left]
    split
    · have : (v.tmod n) % n = v.tmod n + n := by
        rw [← Int.add_emod_right, Int.emod_eq_of_lt (by omega) (by omega)]
      omega
    · rw [e, Int.emod_eq_of_lt (by omega) (by omega)]
  have hlt := Int.emod_lt_of_pos v (show 0 < n by omega)
  have hge := Int.emod_nonneg v (show n ≠ 0 by omega)
  by_cases hk : v.tmod n < 0
  · rw [if_pos hk] at key
    have hw : IntKind.i64.wrap (v.tmod n + n) = v % n := by rw [wrap_small (by omega) (by omega)]; omega
    simp [wpk_skip, wpk_seq, k_cond, wpk_block, wpk_exit, wpk_ret, wpk_goto, wpk_label, wpk_loop, k_ops, k_draw0, t_nil, t_cons, KT_eq, KD_eq, wpo_nil, k_cons, k_step, mt_some, mtk_some, KO_eq, KP_eq, K_normal, K_ret, K_exit, KB_normal, KB_ret, KB_exit, KL_normal, KL_ret, KL_exit, K_goto, KB_goto, KL_goto, KS_goto, KS_ret, KS_normal, KS_exit, k_ret, k_normal, stepE, isCall, calleeE, opE, wantE, odE, odS, odL, odSL, fget, fput, initE, keepF, List.map_cons, List.map_nil, binE, intOp, strOp, shOp, unE, eqpE, eqnE, neqB, ressE, resE, packL, packE, flat1, fcells, fillE, setL, cellsOf_bind, cellsO_own, cellsO_ro, lenE_sl, lenE_nils, lenE_sl0, bound, rep, minE, maxE, Option.getD_some, Option.getD_none, isKey, nlS, List.getElem?_cons_zero, List.getElem?_cons_succ, get_lt, set_lt, get_len, get_len_add, set_len, set_len_add, List.append_assoc, List.cons_append, List.nil_append, -getElem?_pos, b18, s18_4, s18_3, s18_2, s18_1, h1, h2, hk, hw]
  · rw [if_neg hk] at key
    simp [wpk_skip, wpk_seq, k_cond, wpk_block, wpk_exit, wpk_ret, wpk_goto, wpk_label, wpk_loop, k_ops, k_draw0, t_nil, t_cons, KT_eq, KD_eq, wpo_nil, k_cons, k_step, mt_some, mtk_some, KO_eq, KP_eq, K_normal, K_ret, K_exit, KB_normal, KB_ret, KB_exit, KL_normal, KL_ret, KL_exit, K_goto, KB_goto, KL_goto, KS_goto, KS_ret, KS_normal, KS_exit, k_ret, k_normal, stepE, isCall, calleeE, opE, wantE, odE, odS, odL, odSL, fget, fput, initE, keepF, List.map_cons, List.map_nil, binE, intOp, strOp, shOp, unE, eqpE, eqnE, neqB, ressE, resE, packL, packE, flat1, fcells, fillE, setL, cellsOf_bind, cellsO_own, cellsO_ro, lenE_sl, lenE_nils, lenE_sl0, bound, rep, minE, maxE, Option.getD_some, Option.getD_none, isKey, nlS, List.getElem?_cons_zero, List.getElem?_cons_succ, get_lt, set_lt, get_len, get_len_add, set_len, set_len_add, List.append_assoc, List.cons_append, List.nil_append, -getElem?_pos, b18, s18_4, s18_3, s18_2, s18_1, h1, h2, hk]
    exact key


theorem within_64 (v n : Int) (hn : 1 ≤ n ∧ n ≤ 1000000000000) : 0 ≤ v % n ∧ v % n < n := ⟨Int.emod_nonneg v (by omega), Int.emod_lt_of_pos v (by omega)⟩
def textF (s : ByteArray) (n : Nat) : ByteArray := s.extract 0 (min s.size n)
theorem textK_ok (s : ByteArray) (n : Nat) (h : LH) : callX C 49 [.s (.str s), .s (.int .i64 n)] h = some (.s (.str (textF s n)), h) := by
  apply callX_wp
  refine WPc.intro (e := e49) rfl (by simp [e49]) ?_
  show WPk C b49 _ _ (KR [.tmp 4] _)
  unfold textF
  by_cases hlt : n < s.size
  · have e : min s.size n = n := Nat.min_eq_right (by omega)
    have h1 : n ≤ s.size := by omega
    rw [e]
    simp [wpk_skip, wpk_seq, k_cond, wpk_block, wpk_exit, wpk_ret, wpk_goto, wpk_label, wpk_loop, k_ops, k_draw0, t_nil, t_cons, KT_eq, KD_eq, wpo_nil, k_cons, k_step, mt_some, mtk_some, KO_eq, KP_eq, K_normal, K_ret, K_exit, KB_normal, KB_ret, KB_exit, KL_normal, KL_ret, KL_exit, K_goto, KB_goto, KL_goto, KS_goto, KS_ret, KS_normal, KS_exit, k_ret, k_normal, stepE, isCall, calleeE, opE, wantE, odE, odS, odL, odSL, fget, fput, initE, keepF, List.map_cons, List.map_nil, binE, intOp, strOp, shOp, unE, eqpE, eqnE, neqB, ressE, resE, packL, packE, flat1, fcells, fillE, setL, cellsOf_bind, cellsO_own, cellsO_ro, lenE_sl, lenE_nils, lenE_sl0, bound, rep, minE, maxE, Option.getD_some, Option.getD_none, isKey, nlS, List.getElem?_cons_zero, List.getElem?_cons_succ, get_lt, set_lt, get_len, get_len_add, set_len, set_len_add, List.append_assoc, List.cons_append, List.nil_append, -getElem?_pos, b49, s49_1, hlt, h1]
  · have e : min s.size n = s.size := Nat.min_eq_left (by omega)
    rw [e]
    simp [wpk_skip, wpk_seq, k_cond, wpk_block, wpk_exit, wpk_ret, wpk_goto, wpk_label, wpk_loop, k_ops, k_draw0, t_nil, t_cons, KT_eq, KD_eq, wpo_nil, k_cons, k_step, mt_some, mtk_some, KO_eq, KP_eq, K_normal, K_ret, K_exit, KB_normal, KB_ret, KB_exit, KL_normal, KL_ret, KL_exit, K_goto, KB_goto, KL_goto, KS_goto, KS_ret, KS_normal, KS_exit, k_ret, k_normal, stepE, isCall, calleeE, opE, wantE, odE, odS, odL, odSL, fget, fput, initE, keepF, List.map_cons, List.map_nil, binE, intOp, strOp, shOp, unE, eqpE, eqnE, neqB, ressE, resE, packL, packE, flat1, fcells, fillE, setL, cellsOf_bind, cellsO_own, cellsO_ro, lenE_sl, lenE_nils, lenE_sl0, bound, rep, minE, maxE, Option.getD_some, Option.getD_none, isKey, nlS, List.getElem?_cons_zero, List.getElem?_cons_succ, get_lt, set_lt, get_len, get_len_add, set_len, set_len_add, List.append_assoc, List.cons_append, List.nil_append, -getElem?_pos, b49, s49_1, hlt]
def idL : List ByteArray := [⟨#[97]⟩, ⟨#[98]⟩, ⟨#[99]⟩, ⟨#[100]⟩, ⟨#[101]⟩]
def idB (n : Int) : ByteArray := idL.getD (n % 5).toNat ⟨#[]⟩
def idO : LO := .own 9 (idL.map .str)
theorem id_ok (n : Int) (h : LH) : callX C 44 [.s (.int .i64 n)] h = some (.s (.str (idB n)), h ++ [idO]) := by
  apply callX_wp
  refine WPc.intro (e := e44) rfl (by simp [e44]) ?_
  show WPk C b44 _ _ (KR [.tmp 2] _)
  have h5 := within_64 n 5 (by omega)
  have hw := fun h => within_ok n 5 (by omega) h
  unfold idB idO
  obtain ⟨k, hk⟩ : ∃ k : Nat, n % 5 = k := ⟨(n % 5).toNat, by omega⟩
  rw [hk] at hw h5 ⊢
  have hc : k = 0 ∨ k = 1 ∨ k = 2 ∨ k = 3 ∨ k = 4 := by omega
  rcases hc with rfl | rfl | rfl | rfl | rfl <;> (simp [wpk_skip, wpk_seq, k_cond, wpk_block, wpk_exit, wpk_ret, wpk_goto, wpk_label, wpk_loop, k_ops, k_draw0, t_nil, t_cons, KT_eq, KD_eq, wpo_nil, k_cons, k_step, mt_some, mtk_some, KO_eq, KP_eq, K_normal, K_ret, K_exit, KB_normal, KB_ret, KB_exit, KL_normal, KL_ret, KL_exit, K_goto, KB_goto, KL_goto, KS_goto, KS_ret, KS_normal, KS_exit, k_ret, k_normal, stepE, isCall, calleeE, opE, wantE, odE, odS, odL, odSL, fget, fput, initE, keepF, List.map_cons, List.map_nil, binE, intOp, strOp, shOp, unE, eqpE, eqnE, neqB, ressE, resE, packL, packE, flat1, fcells, fillE, setL, cellsOf_bind, cellsO_own, cellsO_ro, lenE_sl, lenE_nils, lenE_sl0, bound, rep, minE, maxE, Option.getD_some, Option.getD_none, isKey, nlS, List.getElem?_cons_zero, List.getElem?_cons_succ, get_lt, set_lt, get_len, get_len_add, set_len, set_len_add, List.append_assoc, List.cons_append, List.nil_append, -getElem?_pos, b44, s44_1, hw, idL])
def amountF (n : Int) : Int := if n.tmod 23 = 20 then 100000000000 - n.tdiv 23 % 5 + 2 else if n.tmod 23 = 21 then -100000000000 + n.tdiv 23 % 5 - 2 else if n.tmod 23 = 22 then n else if n.tmod 23 = 19 then n.tdiv 23 % 200000000001 - 100000000000 else n % 4001 - 2000
theorem amount_64 {n : Int} (hn : is64 n) : is64 (amountF n) := by
  unfold amountF
  have a := within_64 (n.tdiv 23) 5 (by omega)
  have b := within_64 (n.tdiv 23) 200000000001 (by omega)
  have c := within_64 n 4001 (by omega)
  unfold is64 at *
  repeat' split
  all_goals omega
theorem amountC_ok {n : Int} (hn : is64 n) (h : LH) : callX C 47 [.s (.int .i64 n)] h = some (.s (.int .i64 (amountF n)), h) := by
  apply callX_wp
  refine WPc.intro (e := e47) rfl (by simp [e47]) ?_
  show WPk C b47 _ _ (KR [.tmp 2] _)
  have q := tdiv_64 hn 23 (by omega)
  have a1 := fun h => within_ok (n.tdiv 23) 5 (by omega) h
  have b1 := fun h => within_ok (n.tdiv 23) 200000000001 (by omega) h
  have c1 := fun h => within_ok n 4001 (by omega) h
  have a := within_64 (n.tdiv 23) 5 (by omega)
  have b := within_64 (n.tdiv 23) 200000000001 (by omega)
  have c := within_64 n 4001 (by omega)
  have w1 : IntKind.i64.wrap (100000000000 - n.tdiv 23 % 5) = 100000000000 - n.tdiv 23 % 5 := wrap_small (by omega) (by omega)
  have w2 : IntKind.i64.wrap (100000000000 - n.tdiv 23 % 5 + 2) = 100000000000 - n.tdiv 23 % 5 + 2 := wrap_small (by omega) (by omega)
  have w3 : IntKind.i64.wrap (-100000000000 + n.tdiv 23 % 5) = -100000000000 + n.tdiv 23 % 5 := wrap_small (by omega) (by omega)
  have w4 : IntKind.i64.wrap (-100000000000 + n.tdiv 23 % 5 - 2) = -100000000000 + n.tdiv 23 % 5 - 2 := wrap_small (by omega) (by omega)
  have w5 : IntKind.i64.wrap (n.tdiv 23 % 200000000001 - 100000000000) = n.tdiv 23 % 200000000001 - 100000000000 := wrap_small (by omega) (by omega)
  have w6 : IntKind.i64.wrap (n % 4001 - 2000) = n % 4001 - 2000 := wrap_small (by omega) (by omega)
  unfold amountF
  by_cases e1 : n.tmod 23 = 20
  · have f1 : (n.tmod 23 == 20) = true := by simp [e1]
    simp [wpk_skip, wpk_seq, k_cond, wpk_block, wpk_exit, wpk_ret, wpk_goto, wpk_label, wpk_loop, k_ops, k_draw0, t_nil, t_cons, KT_eq, KD_eq, wpo_nil, k_cons, k_step, mt_some, mtk_some, KO_eq, KP_eq, K_normal, K_ret, K_exit, KB_normal, KB_ret, KB_exit, KL_normal, KL_ret, KL_exit, K_goto, KB_goto, KL_goto, KS_goto, KS_ret, KS_normal, KS_exit, k_ret, k_normal, stepE, isCall, calleeE, opE, wantE, odE, odS, odL, odSL, fget, fput, initE, keepF, List.map_cons, List.map_nil, binE, intOp, strOp, shOp, unE, eqpE, eqnE, neqB, ressE, resE, packL, packE, flat1, fcells, fillE, setL, cellsOf_bind, cellsO_own, cellsO_ro, lenE_sl, lenE_nils, lenE_sl0, bound, rep, minE, maxE, Option.getD_some, Option.getD_none, isKey, nlS, List.getElem?_cons_zero, List.getElem?_cons_succ, get_lt, set_lt, get_len, get_len_add, set_len, set_len_add, List.append_assoc, List.cons_append, List.nil_append, -getElem?_pos, b47, s47_2, s47_1, q, e1, f1, a1, w1, w2]
  have f1 : (n.tmod 23 == 20) = false := by simpa using e1
  by_cases e2 : n.tmod 23 = 21
  · have f2 : (n.tmod 23 == 21) = true := by simp [e2]
    simp [wpk_skip, wpk_seq, k_cond, wpk_block, wpk_exit, wpk_ret, wpk_goto, wpk_label, wpk_loop, k_ops, k_draw0, t_nil, t_cons, KT_eq, KD_eq, wpo_nil, k_cons, k_step, mt_some, mtk_some, KO_eq, KP_eq, K_normal, K_ret, K_exit, KB_normal, KB_ret, KB_exit, KL_normal, KL_ret, KL_exit, K_goto, KB_goto, KL_goto, KS_goto, KS_ret, KS_normal, KS_exit, k_ret, k_normal, stepE, isCall, calleeE, opE, wantE, odE, odS, odL, odSL, fget, fput, initE, keepF, List.map_cons, List.map_nil, binE, intOp, strOp, shOp, unE, eqpE, eqnE, neqB, ressE, resE, packL, packE, flat1, fcells, fillE, setL, cellsOf_bind, cellsO_own, cellsO_ro, lenE_sl, lenE_nils, lenE_sl0, bound, rep, minE, maxE, Option.getD_some, Option.getD_none, isKey, nlS, List.getElem?_cons_zero, List.getElem?_cons_succ, get_lt, set_lt, get_len, get_len_add, set_len, set_len_add, List.append_assoc, List.cons_append, List.nil_append, -getElem?_pos, b47, s47_2, s47_1, q, e1, f1, e2, f2, a1, w3, w4]
  have f2 : (n.tmod 23 == 21) = false := by simpa using e2
  by_cases e3 : n.tmod 23 = 22
  · have f3 : (n.tmod 23 == 22) = true := by simp [e3]
    simp [wpk_skip, wpk_seq, k_cond, wpk_block, wpk_exit, wpk_ret, wpk_goto, wpk_label, wpk_loop, k_ops, k_draw0, t_nil, t_cons, KT_eq, KD_eq, wpo_nil, k_cons, k_step, mt_some, mtk_some, KO_eq, KP_eq, K_normal, K_ret, K_exit, KB_normal, KB_ret, KB_exit, KL_normal, KL_ret, KL_exit, K_goto, KB_goto, KL_goto, KS_goto, KS_ret, KS_normal, KS_exit, k_ret, k_normal, stepE, isCall, calleeE, opE, wantE, odE, odS, odL, odSL, fget, fput, initE, keepF, List.map_cons, List.map_nil, binE, intOp, strOp, shOp, unE, eqpE, eqnE, neqB, ressE, resE, packL, packE, flat1, fcells, fillE, setL, cellsOf_bind, cellsO_own, cellsO_ro, lenE_sl, lenE_nils, lenE_sl0, bound, rep, minE, maxE, Option.getD_some, Option.getD_none, isKey, nlS, List.getElem?_cons_zero, List.getElem?_cons_succ, get_lt, set_lt, get_len, get_len_add, set_len, set_len_add, List.append_assoc, List.cons_append, List.nil_append, -getElem?_pos, b47, s47_2, s47_1, q, e1, f1, e2, f2, e3, f3]
  have f3 : (n.tmod 23 == 22) = false := by simpa using e3
  by_cases e4 : n.tmod 23 = 19
  · have f4 : (n.tmod 23 == 19) = true := by simp [e4]
    simp [wpk_skip, wpk_seq, k_cond, wpk_block, wpk_exit, wpk_ret, wpk_goto, wpk_label, wpk_loop, k_ops, k_draw0, t_nil, t_cons, KT_eq, KD_eq, wpo_nil, k_cons, k_step, mt_some, mtk_some, KO_eq, KP_eq, K_normal, K_ret, K_exit, KB_normal, KB_ret, KB_exit, KL_normal, KL_ret, KL_exit, K_goto, KB_goto, KL_goto, KS_goto, KS_ret, KS_normal, KS_exit, k_ret, k_normal, stepE, isCall, calleeE, opE, wantE, odE, odS, odL, odSL, fget, fput, initE, keepF, List.map_cons, List.map_nil, binE, intOp, strOp, shOp, unE, eqpE, eqnE, neqB, ressE, resE, packL, packE, flat1, fcells, fillE, setL, cellsOf_bind, cellsO_own, cellsO_ro, lenE_sl, lenE_nils, lenE_sl0, bound, rep, minE, maxE, Option.getD_some, Option.getD_none, isKey, nlS, List.getElem?_cons_zero, List.getElem?_cons_succ, get_lt, set_lt, get_len, get_len_add, set_len, set_len_add, List.append_assoc, List.cons_append, List.nil_append, -getElem?_pos, b47, s47_2, s47_1, q, e1, f1, e2, f2, e3, f3, e4, f4, b1, w5]
  have f4 : (n.tmod 23 == 19) = false := by simpa using e4
  simp [wpk_skip, wpk_seq, k_cond, wpk_block, wpk_exit, wpk_ret, wpk_goto, wpk_label, wpk_loop, k_ops, k_draw0, t_nil, t_cons, KT_eq, KD_eq, wpo_nil, k_cons, k_step, mt_some, mtk_some, KO_eq, KP_eq, K_normal, K_ret, K_exit, KB_normal, KB_ret, KB_exit, KL_normal, KL_ret, KL_exit, K_goto, KB_goto, KL_goto, KS_goto, KS_ret, KS_normal, KS_exit, k_ret, k_normal, stepE, isCall, calleeE, opE, wantE, odE, odS, odL, odSL, fget, fput, initE, keepF, List.map_cons, List.map_nil, binE, intOp, strOp, shOp, unE, eqpE, eqnE, neqB, ressE, resE, packL, packE, flat1, fcells, fillE, setL, cellsOf_bind, cellsO_own, cellsO_ro, lenE_sl, lenE_nils, lenE_sl0, bound, rep, minE, maxE, Option.getD_some, Option.getD_none, isKey, nlS, List.getElem?_cons_zero, List.getElem?_cons_succ, get_lt, set_lt, get_len, get_len_add, set_len, set_len_add, List.append_assoc, List.cons_append, List.nil_append, -getElem?_pos, b47, s47_2, s47_1, q, e1, f1, e2, f2, e3, f3, e4, f4, c1, w6]
def rateL : List Int := [250000, 300000, 190000, 0, 1000000, 333333, 500000, 1, 125000, 999999]
def rateO : LO := .own 3 (rateL.map (.int .i64))
def rateF (n : Int) : Int := if n.tmod 29 = 28 then n else rateL.getD (n % 10).toNat 0
def rateH (n : Int) : LH := if n.tmod 29 = 28 then [] else [rateO]
theorem rate_64 {n : Int} (hn : is64 n) : is64 (rateF n) := by
  unfold rateF
  split
  · exact hn
  · have c := within_64 n 10 (by omega)
    generalize hk : (n % 10).toNat = k
    have hc : k = 0 ∨ k = 1 ∨ k = 2 ∨ k = 3 ∨ k = 4 ∨ k = 5 ∨ k = 6 ∨ k = 7 ∨ k = 8 ∨ k = 9 := by omega
    rcases hc with rfl | rfl | rfl | rfl | rfl | rfl | rfl | rfl | rfl | rfl <;> (unfold is64; decide)
theorem rateC_ok (n : Int) (h : LH) : callX C 48 [.s (.int .i64 n)] h = some (.s (.int .i64 (rateF n)), h ++ rateH n) := by
  apply callX_wp
  refine WPc.intro (e := e48) rfl (by simp [e48]) ?_
  show WPk C b48 _ _ (KR [.tmp 2] _)
  unfold rateF rateH rateO
  by_cases e1 : n.tmod 29 = 28
  · have f1 : (n.tmod 29 == 28) = true := by simp [e1]
    simp [wpk_skip, wpk_seq, k_cond, wpk_block, wpk_exit, wpk_ret, wpk_goto, wpk_label, wpk_loop, k_ops, k_draw0, t_nil, t_cons, KT_eq, KD_eq, wpo_nil, k_cons, k_step, mt_some, mtk_some, KO_eq, KP_eq, K_normal, K_ret, K_exit, KB_normal, KB_ret, KB_exit, KL_normal, KL_ret, KL_exit, K_goto, KB_goto, KL_goto, KS_goto, KS_ret, KS_normal, KS_exit, k_ret, k_normal, stepE, isCall, calleeE, opE, wantE, odE, odS, odL, odSL, fget, fput, initE, keepF, List.map_cons, List.map_nil, binE, intOp, strOp, shOp, unE, eqpE, eqnE, neqB, ressE, resE, packL, packE, flat1, fcells, fillE, setL, cellsOf_bind, cellsO_own, cellsO_ro, lenE_sl, lenE_nils, lenE_sl0, bound, rep, minE, maxE, Option.getD_some, Option.getD_none, isKey, nlS, List.getElem?_cons_zero, List.getElem?_cons_succ, get_lt, set_lt, get_len, get_len_add, set_len, set_len_add, List.append_assoc, List.cons_append, List.nil_append, -getElem?_pos, b48, s48_2, s48_1, e1, f1]
  have f1 : (n.tmod 29 == 28) = false := by simpa using e1
  have h5 := within_64 n 10 (by omega)
  have hw := fun h => within_ok n 10 (by omega) h
  obtain ⟨k, hk⟩ : ∃ k : Nat, n % 10 = k := ⟨(n % 10).toNat, by omega⟩
  rw [hk] at hw h5 ⊢
  have hc : k = 0 ∨ k = 1 ∨ k = 2 ∨ k = 3 ∨ k = 4 ∨ k = 5 ∨ k = 6 ∨ k = 7 ∨ k = 8 ∨ k = 9 := by omega
  rcases hc with rfl | rfl | rfl | rfl | rfl | rfl | rfl | rfl | rfl | rfl <;> (simp [wpk_skip, wpk_seq, k_cond, wpk_block, wpk_exit, wpk_ret, wpk_goto, wpk_label, wpk_loop, k_ops, k_draw0, t_nil, t_cons, KT_eq, KD_eq, wpo_nil, k_cons, k_step, mt_some, mtk_some, KO_eq, KP_eq, K_normal, K_ret, K_exit, KB_normal, KB_ret, KB_exit, KL_normal, KL_ret, KL_exit, K_goto, KB_goto, KL_goto, KS_goto, KS_ret, KS_normal, KS_exit, k_ret, k_normal, stepE, isCall, calleeE, opE, wantE, odE, odS, odL, odSL, fget, fput, initE, keepF, List.map_cons, List.map_nil, binE, intOp, strOp, shOp, unE, eqpE, eqnE, neqB, ressE, resE, packL, packE, flat1, fcells, fillE, setL, cellsOf_bind, cellsO_own, cellsO_ro, lenE_sl, lenE_nils, lenE_sl0, bound, rep, minE, maxE, Option.getD_some, Option.getD_none, isKey, nlS, List.getElem?_cons_zero, List.getElem?_cons_succ, get_lt, set_lt, get_len, get_len_add, set_len, set_len_add, List.append_assoc, List.cons_append, List.nil_append, -getElem?_pos, b48, s48_2, s48_1, e1, f1, hw, rateL])
end Go.Proofs.YtbgfcgmbihhlbaaDoor.Ev.CW
