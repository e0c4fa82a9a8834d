/- Debits and credits on the small machine. -/
import Derived.Test.YtbpagnnfieipcaaCodeT
import Derived.Test.YtbpagnnfieipcaaFl
set_option linter.unusedSimpArgs false
set_option linter.unusedVariables false
namespace Go.Proofs.Ytbpagnnfieipcaa.Ev.CT
open Go

def is64 (n : Int) : Prop := -9223372036854775808 ≤ n ∧ n < 9223372036854775808
theorem tdiv_64 {n : Int} (hn : is64 n) (d : Int) (hd : 1 < d) : IntKind.i64.wrap (n.tdiv d) = n.tdiv d := by
  have a1 : (n.tdiv d).natAbs ≤ n.natAbs := by
    rw [Int.natAbs_tdiv]; exact Nat.div_le_self _ _
  have a2 : n.natAbs ≤ 9223372036854775808 := by unfold is64 at hn; omega
  by_cases e : n = -9223372036854775808
  · have : (n.tdiv d).natAbs < 9223372036854775808 := by
      rw [Int.natAbs_tdiv]
      exact Nat.div_lt_of_lt_mul (by have : n.natAbs = 9223372036854775808 := by omega
                                     rw [this]; omega)
    exact wrap_small (by omega) (by omega)
  · have : n.natAbs < 9223372036854775808 := by unfold is64 at hn; omega
    exact wrap_small (by omega) (by omega)

theorem wrap_64 (n : Int) : is64 (IntKind.i64.wrap n) := by
  unfold is64
  simp [IntKind.wrap, IntKind.bits, IntKind.signed]; omega

theorem within_ok (v n : Int) (hn : 1 ≤ n ∧ n ≤ 1000000000000) (h : LH) : callX C 15 [.s (.int .i64 v), .s (.int .i64 n)] h = some (.s (.int .i64 (v % n)), h) := by
  apply callX_wp
  refine WPc.intro (e := e15) rfl (by simp [e15]) ?_
  show WPk C b15 _ _ (KR [.tmp 4] _)
  have h1 : ¬ (n < 1) := by omega
  have h2 : ¬ (n = 0) := by omega
  have q1 := Int.tmod_lt_of_pos v (show 0 < n by omega)
  have q2 := Int.lt_tmod_of_pos v (show 0 < n by omega)
  have key : v.tmod n = if v.tmod n < 0 then v % n - n else v % n := by
    have e : v % n = (v.tmod n) % n := by
      have h := Int.mul_tdiv_add_tmod v n
      calc v % n = (n * v.tdiv n + v.tmod n) % n := by rw [h]
        _ = (v.tmod n) % n := by rw [Int.add_comm, Int.add_mul_emod_self_left]
    split
    · have : (v.tmod n) % n = v.tmod n + n := by
        rw [← Int.add_emod_right, Int.emod_eq_of_lt (by omega) (by omega)]
      omega
    · rw [e, Int.emod_eq_of_lt (by omega) (by omega)]
  have hlt := Int.emod_lt_of_pos v (show 0 < n by omega)
  have hge := Int.emod_nonneg v (show n ≠ 0 by omega)
  by_cases hk : v.tmod n < 0
  · rw [if_pos hk] at key
    have hw : IntKind.i64.wrap (v.tmod n + n) = v % n := by rw [wrap_small (by omega) (by omega)]; omega
    simp [wpk_skip, wpk_seq, k_cond, wpk_block, wpk_exit, wpk_ret, wpk_loop, k_ops, k_draw0, t_nil, t_cons, KT_eq, KD_eq, wpo_nil, k_cons, k_step, mt_some, mtk_some, KO_eq, KP_eq, K_normal, K_ret, K_exit, KB_normal, KB_ret, KB_exit, KL_normal, KL_ret, KL_exit, k_ret, k_normal, stepE, isCall, calleeE, opE, wantE, odE, odS, odL, odSL, fget, fput, initE, keepF, List.map_cons, List.map_nil, binE, intOp, strOp, shOp, unE, eqpE, eqnE, neqB, ressE, resE, packL, packE, flat1, fcells, fillE, setL, cellsOf_bind, cellsO_own, cellsO_ro, lenE_sl, lenE_nils, lenE_sl0, bound, rep, minE, maxE, List.getElem?_cons_zero, List.getElem?_cons_succ, get_lt, set_lt, get_len, get_len_add, set_len, set_len_add, List.append_assoc, List.cons_append, List.nil_append, -getElem?_pos, b15, s15_4, s15_3, s15_2, s15_1, h1, h2, hk, hw]
  · rw [if_neg hk] at key
    simp [wpk_skip, wpk_seq, k_cond, wpk_block, wpk_exit, wpk_ret, wpk_loop, k_ops, k_draw0, t_nil, t_cons, KT_eq, KD_eq, wpo_nil, k_cons, k_step, mt_some, mtk_some, KO_eq, KP_eq, K_normal, K_ret, K_exit, KB_normal, KB_ret, KB_exit, KL_normal, KL_ret, KL_exit, k_ret, k_normal, stepE, isCall, calleeE, opE, wantE, odE, odS, odL, odSL, fget, fput, initE, keepF, List.map_cons, List.map_nil, binE, intOp, strOp, shOp, unE, eqpE, eqnE, neqB, ressE, resE, packL, packE, flat1, fcells, fillE, setL, cellsOf_bind, cellsO_own, cellsO_ro, lenE_sl, lenE_nils, lenE_sl0, bound, rep, minE, maxE, List.getElem?_cons_zero, List.getElem?_cons_succ, get_lt, set_lt, get_len, get_len_add, set_len, set_len_add, List.append_assoc, List.cons_append, List.nil_append, -getElem?_pos, b15, s15_4, s15_3, s15_2, s15_1, h1, h2, hk]
    exact key


theorem money_ok (p : Int) (h : LH) : callX C 32 [.s (.int .i64 p)] h = some (.s (.bool (decide (-100000000000 ≤ p ∧ p ≤ 100000000000))), h) := by
  apply callX_wp
  refine WPc.intro (e := e32) rfl (by simp [e32]) ?_
  show WPk C b32 _ _ (KR [.tmp 2] _)
  by_cases h0 : p ≥ -100000000000
  · simp [wpk_skip, wpk_seq, k_cond, wpk_block, wpk_exit, wpk_ret, wpk_loop, k_ops, k_draw0, t_nil, t_cons, KT_eq, KD_eq, wpo_nil, k_cons, k_step, mt_some, mtk_some, KO_eq, KP_eq, K_normal, K_ret, K_exit, KB_normal, KB_ret, KB_exit, KL_normal, KL_ret, KL_exit, k_ret, k_normal, stepE, isCall, calleeE, opE, wantE, odE, odS, odL, odSL, fget, fput, initE, keepF, List.map_cons, List.map_nil, binE, intOp, strOp, shOp, unE, eqpE, eqnE, neqB, ressE, resE, packL, packE, flat1, fcells, fillE, setL, cellsOf_bind, cellsO_own, cellsO_ro, lenE_sl, lenE_nils, lenE_sl0, bound, rep, minE, maxE, List.getElem?_cons_zero, List.getElem?_cons_succ, get_lt, set_lt, get_len, get_len_add, set_len, set_len_add, List.append_assoc, List.cons_append, List.nil_append, -getElem?_pos, b32, s32_1, h0]
  · simp [wpk_skip, wpk_seq, k_cond, wpk_block, wpk_exit, wpk_ret, wpk_loop, k_ops, k_draw0, t_nil, t_cons, KT_eq, KD_eq, wpo_nil, k_cons, k_step, mt_some, mtk_some, KO_eq, KP_eq, K_normal, K_ret, K_exit, KB_normal, KB_ret, KB_exit, KL_normal, KL_ret, KL_exit, k_ret, k_normal, stepE, isCall, calleeE, opE, wantE, odE, odS, odL, odSL, fget, fput, initE, keepF, List.map_cons, List.map_nil, binE, intOp, strOp, shOp, unE, eqpE, eqnE, neqB, ressE, resE, packL, packE, flat1, fcells, fillE, setL, cellsOf_bind, cellsO_own, cellsO_ro, lenE_sl, lenE_nils, lenE_sl0, bound, rep, minE, maxE, List.getElem?_cons_zero, List.getElem?_cons_succ, get_lt, set_lt, get_len, get_len_add, set_len, set_len_add, List.append_assoc, List.cons_append, List.nil_append, -getElem?_pos, b32, s32_1, h0]


def money (n : Int) : Bool := decide (-100000000000 ≤ n ∧ n ≤ 100000000000)
def ofP (n : Int) : Nat × Nat := if money n then (if n > 0 then (n.toNat, 0) else (0, (-n).toNat)) else (0, 0)
theorem ofP_bound (n : Int) : (ofP n).1 ≤ 100000000000 ∧ (ofP n).2 ≤ 100000000000 := by
  unfold ofP
  split
  · rename_i h
    have := of_decide_eq_true h
    split <;> simp <;> omega
  · simp
theorem near_nat {n : Int} (h : 0 ≤ n) : FloatKind.f64.nearest n = fl n.toNat := by
  unfold fl
  rw [Int.toNat_of_nonneg h]
theorem of_ok (n : Int) (h : LH) : callX C 25 [.s (.int .i64 n)] h = some (.s (cx (ofP n).1 (ofP n).2), h) := by
  apply callX_wp
  refine WPc.intro (e := e25) rfl (by simp [e25]) ?_
  show WPk C b25 _ _ (KR [.tmp 2] _)
  have q := fun h => money_ok n h
  unfold ofP
  by_cases c : -100000000000 ≤ n ∧ n ≤ 100000000000
  · rw [decide_eq_true c] at q
    rw [if_pos (show money n = true from decide_eq_true c)]
    by_cases c2 : n > 0
    · have c2' : 0 < n := c2
      have e := near_nat (n := n) (by omega)
      rw [if_pos c2]
      simp [wpk_skip, wpk_seq, k_cond, wpk_block, wpk_exit, wpk_ret, wpk_loop, k_ops, k_draw0, t_nil, t_cons, KT_eq, KD_eq, wpo_nil, k_cons, k_step, mt_some, mtk_some, KO_eq, KP_eq, K_normal, K_ret, K_exit, KB_normal, KB_ret, KB_exit, KL_normal, KL_ret, KL_exit, k_ret, k_normal, stepE, isCall, calleeE, opE, wantE, odE, odS, odL, odSL, fget, fput, initE, keepF, List.map_cons, List.map_nil, binE, intOp, strOp, shOp, unE, eqpE, eqnE, neqB, ressE, resE, packL, packE, flat1, fcells, fillE, setL, cellsOf_bind, cellsO_own, cellsO_ro, lenE_sl, lenE_nils, lenE_sl0, bound, rep, minE, maxE, List.getElem?_cons_zero, List.getElem?_cons_succ, get_lt, set_lt, get_len, get_len_add, set_len, set_len_add, List.append_assoc, List.cons_append, List.nil_append, -getElem?_pos, b25, s25_2, s25_1, q, c2, c2', e, cx, fl_zero]
    · have c2' : ¬ 0 < n := c2
      have e := near_nat (n := -n) (by omega)
      have w : IntKind.i64.wrap (-n) = -n := wrap_small (by omega) (by omega)
      rw [if_neg c2]
      simp [wpk_skip, wpk_seq, k_cond, wpk_block, wpk_exit, wpk_ret, wpk_loop, k_ops, k_draw0, t_nil, t_cons, KT_eq, KD_eq, wpo_nil, k_cons, k_step, mt_some, mtk_some, KO_eq, KP_eq, K_normal, K_ret, K_exit, KB_normal, KB_ret, KB_exit, KL_normal, KL_ret, KL_exit, k_ret, k_normal, stepE, isCall, calleeE, opE, wantE, odE, odS, odL, odSL, fget, fput, initE, keepF, List.map_cons, List.map_nil, binE, intOp, strOp, shOp, unE, eqpE, eqnE, neqB, ressE, resE, packL, packE, flat1, fcells, fillE, setL, cellsOf_bind, cellsO_own, cellsO_ro, lenE_sl, lenE_nils, lenE_sl0, bound, rep, minE, maxE, List.getElem?_cons_zero, List.getElem?_cons_succ, get_lt, set_lt, get_len, get_len_add, set_len, set_len_add, List.append_assoc, List.cons_append, List.nil_append, -getElem?_pos, b25, s25_2, s25_1, q, c2, c2', w, e, cx, fl_zero]
  · rw [decide_eq_false c] at q
    rw [if_neg (show ¬ money n = true by unfold money; simpa using c)]
    simp [wpk_skip, wpk_seq, k_cond, wpk_block, wpk_exit, wpk_ret, wpk_loop, k_ops, k_draw0, t_nil, t_cons, KT_eq, KD_eq, wpo_nil, k_cons, k_step, mt_some, mtk_some, KO_eq, KP_eq, K_normal, K_ret, K_exit, KB_normal, KB_ret, KB_exit, KL_normal, KL_ret, KL_exit, k_ret, k_normal, stepE, isCall, calleeE, opE, wantE, odE, odS, odL, odSL, fget, fput, initE, keepF, List.map_cons, List.map_nil, binE, intOp, strOp, shOp, unE, eqpE, eqnE, neqB, ressE, resE, packL, packE, flat1, fcells, fillE, setL, cellsOf_bind, cellsO_own, cellsO_ro, lenE_sl, lenE_nils, lenE_sl0, bound, rep, minE, maxE, List.getElem?_cons_zero, List.getElem?_cons_succ, get_lt, set_lt, get_len, get_len_add, set_len, set_len_add, List.append_assoc, List.cons_append, List.nil_append, -getElem?_pos, b25, s25_2, s25_1, q, cx, fl_zero]

theorem ftoi_fl {n : Nat} (h : n ≤ 4000000000000000) : (FloatKind.f64.decode (fl n)).toInt .zero = some (n : Int) := fl_int (by omega)
theorem both_ok {d c : Nat} (hd : d ≤ 4000000000000000) (hc : c ≤ 4000000000000000) (h : LH) : callX C 27 [.s (cx d c)] h = some (.tup [.s (.int .i64 d), .s (.int .i64 c)], h) := by
  apply callX_wp
  refine WPc.intro (e := e27) rfl (by simp [e27]) ?_
  show WPk C b27 _ _ (KR [.tmp 2, .tmp 3] _)
  have e1 := ftoi_fl hd
  have e2 := ftoi_fl hc
  have m1 : (d : Int) ≤ 9223372036854775807 := by omega
  have m2 : (c : Int) ≤ 9223372036854775807 := by omega
  have m3 : (-9223372036854775808 : Int) ≤ (d : Int) := by omega
  have m4 : (-9223372036854775808 : Int) ≤ (c : Int) := by omega
  have m5 : IntKind.i64.min ≤ (d : Int) := m3
  have m6 : IntKind.i64.min ≤ (c : Int) := m4
  simp [wpk_skip, wpk_seq, k_cond, wpk_block, wpk_exit, wpk_ret, wpk_loop, k_ops, k_draw0, t_nil, t_cons, KT_eq, KD_eq, wpo_nil, k_cons, k_step, mt_some, mtk_some, KO_eq, KP_eq, K_normal, K_ret, K_exit, KB_normal, KB_ret, KB_exit, KL_normal, KL_ret, KL_exit, k_ret, k_normal, stepE, isCall, calleeE, opE, wantE, odE, odS, odL, odSL, fget, fput, initE, keepF, List.map_cons, List.map_nil, binE, intOp, strOp, shOp, unE, eqpE, eqnE, neqB, ressE, resE, packL, packE, flat1, fcells, fillE, setL, cellsOf_bind, cellsO_own, cellsO_ro, lenE_sl, lenE_nils, lenE_sl0, bound, rep, minE, maxE, List.getElem?_cons_zero, List.getElem?_cons_succ, get_lt, set_lt, get_len, get_len_add, set_len, set_len_add, List.append_assoc, List.cons_append, List.nil_append, -getElem?_pos, b27, s27_1, cx, e1, e2, m1, m2, m3, m4, m5, m6]
theorem net_ok {d c : Nat} (hd : d ≤ 4000000000000000) (hc : c ≤ 4000000000000000) (h : LH) : callX C 28 [.s (cx d c)] h = some (.s (.int .i64 ((d : Int) - c)), h) := by
  apply callX_wp
  refine WPc.intro (e := e28) rfl (by simp [e28]) ?_
  show WPk C b28 _ _ (KR [.tmp 2] _)
  have q := fun h => both_ok hd hc h
  have w : IntKind.i64.wrap ((d : Int) - c) = (d : Int) - c := wrap_small (by omega) (by omega)
  simp [wpk_skip, wpk_seq, k_cond, wpk_block, wpk_exit, wpk_ret, wpk_loop, k_ops, k_draw0, t_nil, t_cons, KT_eq, KD_eq, wpo_nil, k_cons, k_step, mt_some, mtk_some, KO_eq, KP_eq, K_normal, K_ret, K_exit, KB_normal, KB_ret, KB_exit, KL_normal, KL_ret, KL_exit, k_ret, k_normal, stepE, isCall, calleeE, opE, wantE, odE, odS, odL, odSL, fget, fput, initE, keepF, List.map_cons, List.map_nil, binE, intOp, strOp, shOp, unE, eqpE, eqnE, neqB, ressE, resE, packL, packE, flat1, fcells, fillE, setL, cellsOf_bind, cellsO_own, cellsO_ro, lenE_sl, lenE_nils, lenE_sl0, bound, rep, minE, maxE, List.getElem?_cons_zero, List.getElem?_cons_succ, get_lt, set_lt, get_len, get_len_add, set_len, set_len_add, List.append_assoc, List.cons_append, List.nil_append, -getElem?_pos, b28, s28_2, s28_1, q, w]
theorem turn_ok (a b : Nat) (h : LH) : callX C 30 [.s (.cpl .f64 a b)] h = some (.s (.cpl .f64 b a), h) := by
  apply callX_wp
  refine WPc.intro (e := e30) rfl (by simp [e30]) ?_
  show WPk C b30 _ _ (KR [.tmp 2] _)
  simp [wpk_skip, wpk_seq, k_cond, wpk_block, wpk_exit, wpk_ret, wpk_loop, k_ops, k_draw0, t_nil, t_cons, KT_eq, KD_eq, wpo_nil, k_cons, k_step, mt_some, mtk_some, KO_eq, KP_eq, K_normal, K_ret, K_exit, KB_normal, KB_ret, KB_exit, KL_normal, KL_ret, KL_exit, k_ret, k_normal, stepE, isCall, calleeE, opE, wantE, odE, odS, odL, odSL, fget, fput, initE, keepF, List.map_cons, List.map_nil, binE, intOp, strOp, shOp, unE, eqpE, eqnE, neqB, ressE, resE, packL, packE, flat1, fcells, fillE, setL, cellsOf_bind, cellsO_own, cellsO_ro, lenE_sl, lenE_nils, lenE_sl0, bound, rep, minE, maxE, List.getElem?_cons_zero, List.getElem?_cons_succ, get_lt, set_lt, get_len, get_len_add, set_len, set_len_add, List.append_assoc, List.cons_append, List.nil_append, -getElem?_pos, b30, s30_1]
theorem even_ok {d c : Nat} (hd : d ≤ 4000000000000000) (hc : c ≤ 4000000000000000) (h : LH) : callX C 31 [.s (cx d c)] h = some (.s (.bool (decide (d = c))), h) := by
  apply callX_wp
  refine WPc.intro (e := e31) rfl (by simp [e31]) ?_
  show WPk C b31 _ _ (KR [.tmp 2] _)
  have q := flt_eql (a := d) (b := c) (by omega) (by omega)
  simp [wpk_skip, wpk_seq, k_cond, wpk_block, wpk_exit, wpk_ret, wpk_loop, k_ops, k_draw0, t_nil, t_cons, KT_eq, KD_eq, wpo_nil, k_cons, k_step, mt_some, mtk_some, KO_eq, KP_eq, K_normal, K_ret, K_exit, KB_normal, KB_ret, KB_exit, KL_normal, KL_ret, KL_exit, k_ret, k_normal, stepE, isCall, calleeE, opE, wantE, odE, odS, odL, odSL, fget, fput, initE, keepF, List.map_cons, List.map_nil, binE, intOp, strOp, shOp, unE, eqpE, eqnE, neqB, ressE, resE, packL, packE, flat1, fcells, fillE, setL, cellsOf_bind, cellsO_own, cellsO_ro, lenE_sl, lenE_nils, lenE_sl0, bound, rep, minE, maxE, List.getElem?_cons_zero, List.getElem?_cons_succ, get_lt, set_lt, get_len, get_len_add, set_len, set_len_add, List.append_assoc, List.cons_append, List.nil_append, -getElem?_pos, b31, s31_1, cx, q]

def encC (p : Nat × Nat) : List SV := [cx p.1 p.2]
theorem encC_len (p : Nat × Nat) : (encC p).length = 1 := rfl
def s1 (l : List (Nat × Nat)) : Nat := (l.map (·.1)).sum
def s2 (l : List (Nat × Nat)) : Nat := (l.map (·.2)).sum
theorem s_take (l : List (Nat × Nat)) (k : Nat) (hk : k < l.length) : s1 (l.take (k + 1)) = s1 (l.take k) + l[k].1 ∧ s2 (l.take (k + 1)) = s2 (l.take k) + l[k].2 := by
  rw [List.take_succ_eq_append_getElem hk]
  simp only [s1, s2, List.map_append, List.sum_append, List.map_cons, List.map_nil, List.sum_cons, List.sum_nil, Nat.add_zero, and_self]
theorem s_le (l : List (Nat × Nat)) (k : Nat) : s1 (l.take k) ≤ s1 l ∧ s2 (l.take k) ≤ s2 l := by
  have e : l = l.take k ++ l.drop k := (List.take_append_drop k l).symm
  constructor
  · conv => rhs; rw [e]
    simp only [s1, List.map_append, List.sum_append]; omega
  · conv => rhs; rw [e]
    simp only [s2, List.map_append, List.sum_append]; omega
theorem sum_ok {h : LH} {v : SV} {l : List (Nat × Nat)} (r : Rd h 36 1 encC v l) (hl : l.length < 1000000) (h1 : s1 l ≤ 4000000000000000) (h2 : s2 l ≤ 4000000000000000) :
    callX C 26 [.s v] h = some (.s (cx (s1 l) (s2 l)), h) := by
  apply callX_wp
  refine WPc.intro (e := e26) rfl (by simp [e26]) ?_
  show WPk C b26 _ _ (KR [.tmp 2] _)
  have rl := r.len
  simp [wpk_skip, wpk_seq, k_cond, wpk_block, wpk_exit, wpk_ret, wpk_loop, k_ops, k_draw0, t_nil, t_cons, KT_eq, KD_eq, wpo_nil, k_cons, k_step, mt_some, mtk_some, KO_eq, KP_eq, K_normal, K_ret, K_exit, KB_normal, KB_ret, KB_exit, KL_normal, KL_ret, KL_exit, k_ret, k_normal, stepE, isCall, calleeE, opE, wantE, odE, odS, odL, odSL, fget, fput, initE, keepF, List.map_cons, List.map_nil, binE, intOp, strOp, shOp, unE, eqpE, eqnE, neqB, ressE, resE, packL, packE, flat1, fcells, fillE, setL, cellsOf_bind, cellsO_own, cellsO_ro, lenE_sl, lenE_nils, lenE_sl0, bound, rep, minE, maxE, List.getElem?_cons_zero, List.getElem?_cons_succ, get_lt, set_lt, get_len, get_len_add, set_len, set_len_add, List.append_assoc, List.cons_append, List.nil_append, -getElem?_pos, b26, s26_3, s26_2, s26_1, rl]
  refine WPl.inv (fun n fr h' => h' = h ∧ ∃ k : Nat, k ≤ l.length ∧ n = l.length - k ∧ fr = [(3, some (.s (cx (s1 (l.take k)) (s2 (l.take k))))), (6, some (.s v)), (7, some (.s (.int .i64 l.length))), (8, some (.s (.int .i64 k)))]) ?_ _ _ _ ⟨rfl, 0, Nat.zero_le _, rfl, by simp [s1, s2, cx, fl_zero]⟩
  rintro n fr h' ⟨rfl, k, hk, rfl, rfl⟩
  refine ⟨by simp [keepF, fget], ?_⟩
  by_cases hlt : k < l.length
  · obtain ⟨j0, p0, q0, ob0, vs0, rfl, c1, c2, c3, -, c4⟩ := r.at encC_len hlt
    have f0 := c4 0 (by omega)
    simp only [encC, Nat.mul_one, Nat.add_zero] at f0 c3
    have f0' : vs0[q0 + k]? = some (cx l[k].1 l[k].2) := f0
    have c5 := lt_of_some c1
    have w3 : IntKind.i64.wrap ((k : Int) + 1) = ((k + 1 : Nat) : Int) := wrap_small (by omega) (by omega)
    obtain ⟨e1, e2⟩ := s_take l k hlt
    have b := s_le l (k + 1)
    have q := cpl_add (a := s1 (l.take k)) (b := s2 (l.take k)) (c := l[k].1) (d := l[k].2) (by omega) (by omega)
    rw [← e1, ← e2] at q
    simp [wpk_skip, wpk_seq, k_cond, wpk_block, wpk_exit, wpk_ret, wpk_loop, k_ops, k_draw0, t_nil, t_cons, KT_eq, KD_eq, wpo_nil, k_cons, k_step, mt_some, mtk_some, KO_eq, KP_eq, K_normal, K_ret, K_exit, KB_normal, KB_ret, KB_exit, KL_normal, KL_ret, KL_exit, k_ret, k_normal, stepE, isCall, calleeE, opE, wantE, odE, odS, odL, odSL, fget, fput, initE, keepF, List.map_cons, List.map_nil, binE, intOp, strOp, shOp, unE, eqpE, eqnE, neqB, ressE, resE, packL, packE, flat1, fcells, fillE, setL, cellsOf_bind, cellsO_own, cellsO_ro, lenE_sl, lenE_nils, lenE_sl0, bound, rep, minE, maxE, List.getElem?_cons_zero, List.getElem?_cons_succ, get_lt, set_lt, get_len, get_len_add, set_len, set_len_add, List.append_assoc, List.cons_append, List.nil_append, -getElem?_pos, l26_0_2, l26_0_1, l26_0, hlt, c1, c2, c3, c5, f0', w3, q, cx]
    exact ⟨_, by omega, k + 1, hlt, rfl, ⟨rfl, rfl⟩, by omega⟩
  · obtain rfl : k = l.length := by omega
    simp [wpk_skip, wpk_seq, k_cond, wpk_block, wpk_exit, wpk_ret, wpk_loop, k_ops, k_draw0, t_nil, t_cons, KT_eq, KD_eq, wpo_nil, k_cons, k_step, mt_some, mtk_some, KO_eq, KP_eq, K_normal, K_ret, K_exit, KB_normal, KB_ret, KB_exit, KL_normal, KL_ret, KL_exit, k_ret, k_normal, stepE, isCall, calleeE, opE, wantE, odE, odS, odL, odSL, fget, fput, initE, keepF, List.map_cons, List.map_nil, binE, intOp, strOp, shOp, unE, eqpE, eqnE, neqB, ressE, resE, packL, packE, flat1, fcells, fillE, setL, cellsOf_bind, cellsO_own, cellsO_ro, lenE_sl, lenE_nils, lenE_sl0, bound, rep, minE, maxE, List.getElem?_cons_zero, List.getElem?_cons_succ, get_lt, set_lt, get_len, get_len_add, set_len, set_len_add, List.append_assoc, List.cons_append, List.nil_append, -getElem?_pos, l26_0_2, l26_0_1, l26_0, hlt]

theorem wakes_ok (h : LH) : callX C 29 [] h = some (.s (.bool true), h) := by
  apply callX_wp
  refine WPc.intro (e := e29) rfl (by simp [e29]) ?_
  show WPk C b29 _ _ (KR [.tmp 0] _)
  have e3 : fl 3 = 4613937818241073152 := by rw [fl_rg (by omega)]; rfl
  have e4 : fl 4 = 4616189618054758400 := by rw [fl_rg (by omega)]; rfl
  have q1 := fun h => of_ok (-3) h
  have q2 := fun h => of_ok 4 h
  rw [show ofP (-3) = (0, 3) from rfl] at q1
  rw [show ofP 4 = (4, 0) from rfl] at q2
  have a := cpl_eql (a := 0) (b := 3) (c := 0) (d := 3) (by omega) (by omega) (by omega) (by omega)
  have b := cpl_eql (a := 4) (b := 0) (c := 4) (d := 0) (by omega) (by omega) (by omega) (by omega)
  rw [fl_zero, e3] at a
  rw [fl_zero, e4] at b
  simp only [cx, e3, e4, fl_zero] at q1 q2
  simp [wpk_skip, wpk_seq, k_cond, wpk_block, wpk_exit, wpk_ret, wpk_loop, k_ops, k_draw0, t_nil, t_cons, KT_eq, KD_eq, wpo_nil, k_cons, k_step, mt_some, mtk_some, KO_eq, KP_eq, K_normal, K_ret, K_exit, KB_normal, KB_ret, KB_exit, KL_normal, KL_ret, KL_exit, k_ret, k_normal, stepE, isCall, calleeE, opE, wantE, odE, odS, odL, odSL, fget, fput, initE, keepF, List.map_cons, List.map_nil, binE, intOp, strOp, shOp, unE, eqpE, eqnE, neqB, ressE, resE, packL, packE, flat1, fcells, fillE, setL, cellsOf_bind, cellsO_own, cellsO_ro, lenE_sl, lenE_nils, lenE_sl0, bound, rep, minE, maxE, List.getElem?_cons_zero, List.getElem?_cons_succ, get_lt, set_lt, get_len, get_len_add, set_len, set_len_add, List.append_assoc, List.cons_append, List.nil_append, -getElem?_pos, b29, s29_1, q1, q2, a, b]
end Go.Proofs.Ytbpagnnfieipcaa.Ev.CT
