/- Deferred tax on the small machine: parts, rates, sums. -/
import Derived.Test.YtcimcccnhbbncaaEnB
set_option linter.unusedSimpArgs false
set_option linter.unusedVariables false
namespace Go.Proofs.Ytcimcccnhbbncaa.Ev.CE
open Go

theorem same_ok {h : LH} {v w : SV} {l m : List Int} (r : Rd h 3 1 encI v l) (q : Rd h 3 1 encI w m) (hl : l.length < 1000000) : callX C 20 [.s v, .s w] h = some (.s (.bool (decide (l = m))), h) := by
  apply callX_wp
  refine WPc.intro (e := e20) rfl (by simp [e20]) ?_
  show WPk C b20 _ _ (KR [.tmp 4] _)
  by_cases hlen : l.length = m.length
  · have hlen' : ((l.length : Int) != m.length) = false := by simp [hlen]
    simp [wpk_skip, wpk_seq, k_cond, wpk_block, wpk_exit, wpk_ret, wpk_loop, k_ops, k_draw0, t_nil, t_cons, KT_eq, KD_eq, wpo_nil, k_cons, k_step, mt_some, mtk_some, KO_eq, KP_eq, K_normal, K_ret, K_exit, KB_normal, KB_ret, KB_exit, KL_normal, KL_ret, KL_exit, k_ret, k_normal, stepE, isCall, calleeE, opE, wantE, odE, odS, odL, odSL, fget, fput, initE, keepF, List.map_cons, List.map_nil, binE, intOp, strOp, shOp, unE, eqpE, eqnE, neqB, ressE, resE, packL, packE, flat1, fcells, fillE, setL, cellsOf_bind, cellsO_own, cellsO_ro, lenE_sl, lenE_nils, lenE_sl0, bound, rep, minE, maxE, List.getElem?_cons_zero, List.getElem?_cons_succ, get_lt, set_lt, get_len, get_len_add, set_len, set_len_add, List.append_assoc, List.cons_append, List.nil_append, -getElem?_pos, b20, s20_3, s20_2, s20_1, r.len, q.len, hlen']
    refine WPl.inv (fun n fr h' => h' = h ∧ ∃ k, k ≤ l.length ∧ n = l.length - k ∧ l.take k = m.take k ∧ fr = [(0, some (.s v)), (1, some (.s w)), (5, some (.s (.int .i64 k)))]) ?_ _ _ _ ⟨rfl, 0, Nat.zero_le _, rfl, by simp, by simp⟩
    rintro n fr h' ⟨rfl, k, hk, rfl, ht, rfl⟩
    refine ⟨by simp [keepF, fget], ?_⟩
    have rl := r.len
    have ql := q.len
    by_cases hlt : k < l.length
    · obtain ⟨i, p, o, ob, vs, rfl, q2, q3, q4⟩ := r.int hlt
      obtain ⟨i', p', o', ob', vs', rfl, u2, u3, u4⟩ := q.int (k := k) (by omega)
      have hlt' : k < m.length := by omega
      have w3 : IntKind.i64.wrap ((k : Int) + 1) = ((k + 1 : Nat) : Int) := wrap_small (by omega) (by omega)
      by_cases hv : l[k] = m[k]
      · have hv' : (l[k] != m[k]) = false := by simp [hv]
        simp [wpk_skip, wpk_seq, k_cond, wpk_block, wpk_exit, wpk_ret, wpk_loop, k_ops, k_draw0, t_nil, t_cons, KT_eq, KD_eq, wpo_nil, k_cons, k_step, mt_some, mtk_some, KO_eq, KP_eq, K_normal, K_ret, K_exit, KB_normal, KB_ret, KB_exit, KL_normal, KL_ret, KL_exit, k_ret, k_normal, stepE, isCall, calleeE, opE, wantE, odE, odS, odL, odSL, fget, fput, initE, keepF, List.map_cons, List.map_nil, binE, intOp, strOp, shOp, unE, eqpE, eqnE, neqB, ressE, resE, packL, packE, flat1, fcells, fillE, setL, cellsOf_bind, cellsO_own, cellsO_ro, lenE_sl, lenE_nils, lenE_sl0, bound, rep, minE, maxE, List.getElem?_cons_zero, List.getElem?_cons_succ, get_lt, set_lt, get_len, get_len_add, set_len, set_len_add, List.append_assoc, List.cons_append, List.nil_append, -getElem?_pos, l20_0_1, l20_0, hlt, hlt', q2, q3, q4, u2, u3, u4, hv', w3]
        exact ⟨_, by omega, k + 1, hlt, rfl, by rw [List.take_succ_eq_append_getElem hlt, List.take_succ_eq_append_getElem hlt', ht, hv], rfl⟩
      · have hv' : (l[k] != m[k]) = true := by simp [hv]
        have hne : l ≠ m := fun e => hv (by subst e; rfl)
        simp [wpk_skip, wpk_seq, k_cond, wpk_block, wpk_exit, wpk_ret, wpk_loop, k_ops, k_draw0, t_nil, t_cons, KT_eq, KD_eq, wpo_nil, k_cons, k_step, mt_some, mtk_some, KO_eq, KP_eq, K_normal, K_ret, K_exit, KB_normal, KB_ret, KB_exit, KL_normal, KL_ret, KL_exit, k_ret, k_normal, stepE, isCall, calleeE, opE, wantE, odE, odS, odL, odSL, fget, fput, initE, keepF, List.map_cons, List.map_nil, binE, intOp, strOp, shOp, unE, eqpE, eqnE, neqB, ressE, resE, packL, packE, flat1, fcells, fillE, setL, cellsOf_bind, cellsO_own, cellsO_ro, lenE_sl, lenE_nils, lenE_sl0, bound, rep, minE, maxE, List.getElem?_cons_zero, List.getElem?_cons_succ, get_lt, set_lt, get_len, get_len_add, set_len, set_len_add, List.append_assoc, List.cons_append, List.nil_append, -getElem?_pos, l20_0_1, l20_0, hlt, hlt', q2, q3, q4, u2, u3, u4, hv', w3, hne]
    · obtain rfl : k = l.length := by omega
      have he : l = m := by rw [List.take_length, List.take_of_length_le (by omega)] at ht; exact ht
      simp [wpk_skip, wpk_seq, k_cond, wpk_block, wpk_exit, wpk_ret, wpk_loop, k_ops, k_draw0, t_nil, t_cons, KT_eq, KD_eq, wpo_nil, k_cons, k_step, mt_some, mtk_some, KO_eq, KP_eq, K_normal, K_ret, K_exit, KB_normal, KB_ret, KB_exit, KL_normal, KL_ret, KL_exit, k_ret, k_normal, stepE, isCall, calleeE, opE, wantE, odE, odS, odL, odSL, fget, fput, initE, keepF, List.map_cons, List.map_nil, binE, intOp, strOp, shOp, unE, eqpE, eqnE, neqB, ressE, resE, packL, packE, flat1, fcells, fillE, setL, cellsOf_bind, cellsO_own, cellsO_ro, lenE_sl, lenE_nils, lenE_sl0, bound, rep, minE, maxE, List.getElem?_cons_zero, List.getElem?_cons_succ, get_lt, set_lt, get_len, get_len_add, set_len, set_len_add, List.append_assoc, List.cons_append, List.nil_append, -getElem?_pos, l20_0_1, l20_0, hlt, rl, he]
  · have hlen' : ((l.length : Int) != m.length) = true := by simp; omega
    have hne : l ≠ m := fun e => hlen (by rw [e])
    simp [wpk_skip, wpk_seq, k_cond, wpk_block, wpk_exit, wpk_ret, wpk_loop, k_ops, k_draw0, t_nil, t_cons, KT_eq, KD_eq, wpo_nil, k_cons, k_step, mt_some, mtk_some, KO_eq, KP_eq, K_normal, K_ret, K_exit, KB_normal, KB_ret, KB_exit, KL_normal, KL_ret, KL_exit, k_ret, k_normal, stepE, isCall, calleeE, opE, wantE, odE, odS, odL, odSL, fget, fput, initE, keepF, List.map_cons, List.map_nil, binE, intOp, strOp, shOp, unE, eqpE, eqnE, neqB, ressE, resE, packL, packE, flat1, fcells, fillE, setL, cellsOf_bind, cellsO_own, cellsO_ro, lenE_sl, lenE_nils, lenE_sl0, bound, rep, minE, maxE, List.getElem?_cons_zero, List.getElem?_cons_succ, get_lt, set_lt, get_len, get_len_add, set_len, set_len_add, List.append_assoc, List.cons_append, List.nil_append, -getElem?_pos, b20, s20_3, s20_2, s20_1, r.len, q.len, hlen', hne]

def is64 (n : Int) : Prop := -9223372036854775808 ≤ n ∧ n < 9223372036854775808
theorem tdiv_64 {n : Int} (hn : is64 n) (d : Int) (hd : 1 < d) : IntKind.i64.wrap (n.tdiv d) = n.tdiv d := by
  have a1 : (n.tdiv d).natAbs ≤ n.natAbs := by
    rw [Int.natAbs_tdiv]; exact Nat.div_le_self _ _
  have a2 : n.natAbs ≤ 9223372036854775808 := by unfold is64 at hn; omega
  by_cases e : n = -9223372036854775808
  · have : (n.tdiv d).natAbs < 9223372036854775808 := by
      rw [Int.natAbs_tdiv]
      exact Nat.div_lt_of_lt_mul (by have : n.natAbs = 9223372036854775808 := by omega
                                     rw [this]; omega)
    exact wrap_small (by omega) (by omega)
  · have : n.natAbs < 9223372036854775808 := by unfold is64 at hn; omega
    exact wrap_small (by omega) (by omega)

def ofOk (n r : Int) : Prop := -400000000000 ≤ n ∧ n ≤ 400000000000 ∧ 0 ≤ r ∧ r ≤ 10000000
instance (n r : Int) : Decidable (ofOk n r) := by unfold ofOk; infer_instance
def ofF (n r : Int) : Int := if n < 0 then (2 * n * r - 1000000).tdiv 2000000 else (2 * n * r + 1000000).tdiv 2000000
theorem mul_bounds {n r N R : Int} (hN : -N ≤ n ∧ n ≤ N) (hR : 0 ≤ r ∧ r ≤ R) (h0 : 0 ≤ N) : -(N * R) ≤ n * r ∧ n * r ≤ N * R := by
  have a : n * r ≤ N * r := Int.mul_le_mul_of_nonneg_right hN.2 hR.1
  have b : N * r ≤ N * R := Int.mul_le_mul_of_nonneg_left hR.2 h0
  have c : -N * r ≤ n * r := Int.mul_le_mul_of_nonneg_right hN.1 hR.1
  rw [Int.neg_mul] at c
  omega
theorem of_ok {n r : Int} (hk : ofOk n r) (h : LH) : callX C 40 [.s (.int .i64 n), .s (.int .i64 r)] h = some (.tup [.s (.int .i64 (ofF n r)), .s (.bool true)], h) := by
  apply callX_wp
  refine WPc.intro (e := e40) rfl (by simp [e40]) ?_
  show WPk C b40 _ _ (KR [.tmp 4, .tmp 5] _)
  have hk' := hk
  unfold ofOk at hk'
  have a1 : ¬ n < -400000000000 := by omega
  have a2 : ¬ n > 400000000000 := by omega
  have a3 : ¬ r < 0 := by omega
  have a4 : ¬ r > 10000000 := by omega
  have b := mul_bounds (n := n) (r := r) (N := 400000000000) (R := 10000000) (by omega) (by omega) (by omega)
  have e : 2 * n * r = 2 * (n * r) := Int.mul_assoc _ _ _
  have w1 : IntKind.i64.wrap (2 * n) = 2 * n := wrap_small (by omega) (by omega)
  have w2 : IntKind.i64.wrap (2 * n * r) = 2 * n * r := by rw [e]; exact wrap_small (by omega) (by omega)
  unfold ofF
  by_cases c : n < 0
  · have w3 : IntKind.i64.wrap (2 * n * r - 1000000) = 2 * n * r - 1000000 := by rw [e]; exact wrap_small (by omega) (by omega)
    have w4 := tdiv_64 (n := 2 * n * r - 1000000) (by rw [e]; unfold is64; omega) 2000000 (by omega)
    simp [wpk_skip, wpk_seq, k_cond, wpk_block, wpk_exit, wpk_ret, wpk_loop, k_ops, k_draw0, t_nil, t_cons, KT_eq, KD_eq, wpo_nil, k_cons, k_step, mt_some, mtk_some, KO_eq, KP_eq, K_normal, K_ret, K_exit, KB_normal, KB_ret, KB_exit, KL_normal, KL_ret, KL_exit, k_ret, k_normal, stepE, isCall, calleeE, opE, wantE, odE, odS, odL, odSL, fget, fput, initE, keepF, List.map_cons, List.map_nil, binE, intOp, strOp, shOp, unE, eqpE, eqnE, neqB, ressE, resE, packL, packE, flat1, fcells, fillE, setL, cellsOf_bind, cellsO_own, cellsO_ro, lenE_sl, lenE_nils, lenE_sl0, bound, rep, minE, maxE, List.getElem?_cons_zero, List.getElem?_cons_succ, get_lt, set_lt, get_len, get_len_add, set_len, set_len_add, List.append_assoc, List.cons_append, List.nil_append, -getElem?_pos, b40, s40_4, s40_3, s40_2, s40_1, a1, a2, a3, a4, c, w1, w2, w3, w4]
  · have w3 : IntKind.i64.wrap (2 * n * r + 1000000) = 2 * n * r + 1000000 := by rw [e]; exact wrap_small (by omega) (by omega)
    have w4 := tdiv_64 (n := 2 * n * r + 1000000) (by rw [e]; unfold is64; omega) 2000000 (by omega)
    simp [wpk_skip, wpk_seq, k_cond, wpk_block, wpk_exit, wpk_ret, wpk_loop, k_ops, k_draw0, t_nil, t_cons, KT_eq, KD_eq, wpo_nil, k_cons, k_step, mt_some, mtk_some, KO_eq, KP_eq, K_normal, K_ret, K_exit, KB_normal, KB_ret, KB_exit, KL_normal, KL_ret, KL_exit, k_ret, k_normal, stepE, isCall, calleeE, opE, wantE, odE, odS, odL, odSL, fget, fput, initE, keepF, List.map_cons, List.map_nil, binE, intOp, strOp, shOp, unE, eqpE, eqnE, neqB, ressE, resE, packL, packE, flat1, fcells, fillE, setL, cellsOf_bind, cellsO_own, cellsO_ro, lenE_sl, lenE_nils, lenE_sl0, bound, rep, minE, maxE, List.getElem?_cons_zero, List.getElem?_cons_succ, get_lt, set_lt, get_len, get_len_add, set_len, set_len_add, List.append_assoc, List.cons_append, List.nil_append, -getElem?_pos, b40, s40_4, s40_3, s40_2, s40_1, a1, a2, a3, a4, c, w1, w2, w3, w4]
theorem ofF_bound {n r : Int} (hn : -100000000000 ≤ n ∧ n ≤ 100000000000) (hr : 0 ≤ r ∧ r ≤ 1000000) : -200000000000 ≤ ofF n r ∧ ofF n r ≤ 200000000000 := by
  have b := mul_bounds (n := n) (r := r) (N := 100000000000) (R := 1000000) (by omega) hr (by omega)
  have e : 2 * n * r = 2 * (n * r) := Int.mul_assoc _ _ _
  unfold ofF
  rw [e]
  generalize n * r = x at b
  split
  · have h := Int.mul_tdiv_add_tmod (2 * x - 1000000) 2000000
    have h1 := Int.tmod_lt_of_pos (2 * x - 1000000) (show (0 : Int) < 2000000 by omega)
    have h2 := Int.lt_tmod_of_pos (2 * x - 1000000) (show (0 : Int) < 2000000 by omega)
    generalize (2 * x - 1000000).tdiv 2000000 = q at *
    generalize (2 * x - 1000000).tmod 2000000 = m at *
    omega
  · have h := Int.mul_tdiv_add_tmod (2 * x + 1000000) 2000000
    have h1 := Int.tmod_lt_of_pos (2 * x + 1000000) (show (0 : Int) < 2000000 by omega)
    have h2 := Int.lt_tmod_of_pos (2 * x + 1000000) (show (0 : Int) < 2000000 by omega)
    generalize (2 * x + 1000000).tdiv 2000000 = q at *
    generalize (2 * x + 1000000).tmod 2000000 = m at *
    omega

theorem year_of (p : Int) (hp : 0 ≤ p ∧ p ≤ 399) (h : LH) : callX C 44 [.s (.int .i64 p)] h = some (.s (.int .i64 (p / 4)), h) := by
  apply callX_wp
  refine WPc.intro (e := e44) rfl (by simp [e44]) ?_
  show WPk C b44 _ _ (KR [.tmp 2] _)
  have e : p.tdiv 4 = p / 4 := Int.tdiv_eq_ediv_of_nonneg hp.1
  have w : IntKind.i64.wrap (p / 4) = p / 4 := wrap_small (by omega) (by omega)
  have r := period_ok p
  rw [decide_eq_true hp] at r
  simp [wpk_skip, wpk_seq, k_cond, wpk_block, wpk_exit, wpk_ret, wpk_loop, k_ops, k_draw0, t_nil, t_cons, KT_eq, KD_eq, wpo_nil, k_cons, k_step, mt_some, mtk_some, KO_eq, KP_eq, K_normal, K_ret, K_exit, KB_normal, KB_ret, KB_exit, KL_normal, KL_ret, KL_exit, k_ret, k_normal, stepE, isCall, calleeE, opE, wantE, odE, odS, odL, odSL, fget, fput, initE, keepF, List.map_cons, List.map_nil, binE, intOp, strOp, shOp, unE, eqpE, eqnE, neqB, ressE, resE, packL, packE, flat1, fcells, fillE, setL, cellsOf_bind, cellsO_own, cellsO_ro, lenE_sl, lenE_nils, lenE_sl0, bound, rep, minE, maxE, List.getElem?_cons_zero, List.getElem?_cons_succ, get_lt, set_lt, get_len, get_len_add, set_len, set_len_add, List.append_assoc, List.cons_append, List.nil_append, -getElem?_pos, b44, s44_2, s44_1, r, e, w]

structure Bu where
  c : Int
  y : Int
  a : Int
def encB (b : Bu) : List SV := [.int .i64 b.c, .int .i64 b.y, .int .i64 b.a]
theorem encB_len (b : Bu) : (encB b).length = 3 := rfl

def money (n : Int) : Bool := decide (-100000000000 ≤ n ∧ n ≤ 100000000000)
def right (r : Int) : Bool := decide (0 ≤ r ∧ r ≤ 1000000)
def tempGo : Int → List Bu → List Int → Int × Int
  | n, b :: bs, r :: rs => if right r && money b.a then tempGo (n - ofF b.a r) bs rs else (0, 1)
  | n, _, _ => if money n then (n, 0) else (0, 6)
def tempF (bs : List Bu) (rs : List Int) : Int × Int := if rs.length ≠ bs.length then (0, 1) else tempGo 0 bs rs

theorem tempGo_cons (n : Int) (b : Bu) (bs : List Bu) (r : Int) (rs : List Int) : tempGo n (b :: bs) (r :: rs) = if right r && money b.a then tempGo (n - ofF b.a r) bs rs else (0, 1) := rfl
theorem tempGo_nil (n : Int) : tempGo n [] [] = if money n then (n, 0) else (0, 6) := rfl
set_option maxRecDepth 20000 in
theorem temp_ok {h : LH} {v w : SV} {bs : List Bu} {rs : List Int} (rb : Rd h 30 3 encB v bs) (rr : Rd h 3 1 encI w rs) (hl : bs.length < 1000) (hl2 : rs.length < 1000) :
    WPc C 15 [.s v, .s w] h fun u h' => Gr h h' ∧ u = .tup [.s (.int .i64 (tempF bs rs).1), .s (.int .i64 (tempF bs rs).2)] := by
  refine WPc.post fun Ψ hΨ => ?_
  refine WPc.intro (e := e15) rfl (by simp [e15]) ?_
  show WPk C b15 _ _ (KR [.tmp 4, .tmp 5] _)
  unfold tempF at hΨ
  by_cases hlen : rs.length = bs.length
  case neg =>
    rw [if_pos hlen] at hΨ
    have hlen' : ((rs.length : Int) != bs.length) = true := by simp; omega
    simp [wpk_skip, wpk_seq, k_cond, wpk_block, wpk_exit, wpk_ret, wpk_loop, k_ops, k_draw0, t_nil, t_cons, KT_eq, KD_eq, wpo_nil, k_cons, k_step, mt_some, mtk_some, KO_eq, KP_eq, K_normal, K_ret, K_exit, KB_normal, KB_ret, KB_exit, KL_normal, KL_ret, KL_exit, k_ret, k_normal, stepE, isCall, calleeE, opE, wantE, odE, odS, odL, odSL, fget, fput, initE, keepF, List.map_cons, List.map_nil, binE, intOp, strOp, shOp, unE, eqpE, eqnE, neqB, ressE, resE, packL, packE, flat1, fcells, fillE, setL, cellsOf_bind, cellsO_own, cellsO_ro, lenE_sl, lenE_nils, lenE_sl0, bound, rep, minE, maxE, List.getElem?_cons_zero, List.getElem?_cons_succ, get_lt, set_lt, get_len, get_len_add, set_len, set_len_add, List.append_assoc, List.cons_append, List.nil_append, -getElem?_pos, b15, s15_5, s15_4, s15_3, s15_2, s15_1, rb.len, rr.len, hlen']
    exact hΨ _ _ ⟨Gr.refl _, rfl⟩
  rw [if_neg (by omega)] at hΨ
  have hlen' : ((rs.length : Int) != bs.length) = false := by simp; omega
  simp [wpk_skip, wpk_seq, k_cond, wpk_block, wpk_exit, wpk_ret, wpk_loop, k_ops, k_draw0, t_nil, t_cons, KT_eq, KD_eq, wpo_nil, k_cons, k_step, mt_some, mtk_some, KO_eq, KP_eq, K_normal, K_ret, K_exit, KB_normal, KB_ret, KB_exit, KL_normal, KL_ret, KL_exit, k_ret, k_normal, stepE, isCall, calleeE, opE, wantE, odE, odS, odL, odSL, fget, fput, initE, keepF, List.map_cons, List.map_nil, binE, intOp, strOp, shOp, unE, eqpE, eqnE, neqB, ressE, resE, packL, packE, flat1, fcells, fillE, setL, cellsOf_bind, cellsO_own, cellsO_ro, lenE_sl, lenE_nils, lenE_sl0, bound, rep, minE, maxE, List.getElem?_cons_zero, List.getElem?_cons_succ, get_lt, set_lt, get_len, get_len_add, set_len, set_len_add, List.append_assoc, List.cons_append, List.nil_append, -getElem?_pos, b15, s15_5, s15_4, s15_3, s15_2, s15_1, rb.len, rr.len, hlen']
  obtain ⟨T, hT⟩ : ∃ T, T = tempGo 0 bs rs := ⟨_, rfl⟩
  rw [← hT] at hΨ
  refine WPl.inv2 (fun n fr h' => Gr h h' ∧ ∃ (k : Nat) (m : Int), k ≤ bs.length ∧ n = bs.length - k ∧ -200000000000 * k ≤ m ∧ m ≤ 200000000000 * k ∧ tempGo m (bs.drop k) (rs.drop k) = T ∧
    fr = [(1, some (.s w)), (6, some (.s (.int .i64 m))), (16, some (.s v)), (17, some (.s (.int .i64 bs.length))), (18, some (.s (.int .i64 k)))]) ?_ _ _ _ ⟨Gr.refl _, 0, 0, Nat.zero_le _, rfl, by omega, by omega, hT.symm, rfl⟩
  rintro I hI n fr h' ⟨gr, k, m, hk, rfl, m0, m1, he, rfl⟩
  refine ⟨by simp [keepF, fget], ?_⟩
  by_cases hlt : k < bs.length
  · have hltr : k < rs.length := by omega
    obtain ⟨j0, p0, q0, ob0, vs0, rfl, c1, c2, c3, c4, -⟩ := (rb.gr gr).at encB_len hlt
    obtain ⟨j1, p1, q1, ob1, vs1, rfl, d1, d2, d3⟩ := (rr.gr gr).int hltr
    have c5 := lt_of_some c1
    have d5 := lt_of_some d1
    rw [List.drop_eq_getElem_cons hlt, List.drop_eq_getElem_cons hltr] at he
    have w3 : IntKind.i64.wrap ((k : Int) + 1) = ((k + 1 : Nat) : Int) := wrap_small (by omega) (by omega)
    simp only [encB] at c4
    rw [tempGo_cons] at he
    unfold right money at he
    generalize bs[k] = b at *
    generalize rs[k] = r at *
    have r1 := fun h => right_ok r h
    have r2 := fun h => money_ok b.a h
    by_cases e1 : 0 ≤ r ∧ r ≤ 1000000
    case neg =>
      rw [decide_eq_false e1] at he r1
      simp only [Bool.false_and, Bool.false_eq_true, if_false] at he
      simp [wpk_skip, wpk_seq, k_cond, wpk_block, wpk_exit, wpk_ret, wpk_loop, k_ops, k_draw0, t_nil, t_cons, KT_eq, KD_eq, wpo_nil, k_cons, k_step, mt_some, mtk_some, KO_eq, KP_eq, K_normal, K_ret, K_exit, KB_normal, KB_ret, KB_exit, KL_normal, KL_ret, KL_exit, k_ret, k_normal, stepE, isCall, calleeE, opE, wantE, odE, odS, odL, odSL, fget, fput, initE, keepF, List.map_cons, List.map_nil, binE, intOp, strOp, shOp, unE, eqpE, eqnE, neqB, ressE, resE, packL, packE, flat1, fcells, fillE, setL, cellsOf_bind, cellsO_own, cellsO_ro, lenE_sl, lenE_nils, lenE_sl0, bound, rep, minE, maxE, List.getElem?_cons_zero, List.getElem?_cons_succ, get_lt, set_lt, get_len, get_len_add, set_len, set_len_add, List.append_assoc, List.cons_append, List.nil_append, -getElem?_pos, l15_0_2, l15_0_1, l15_0, hlt, hltr, c1, c2, c3, c4, c5, d1, d2, d3, d5, r1]
      exact hΨ _ _ ⟨gr.app _, by rw [← he]⟩
    rw [decide_eq_true e1] at he r1
    by_cases e2 : -100000000000 ≤ b.a ∧ b.a ≤ 100000000000
    case neg =>
      rw [decide_eq_false e2] at he r2
      simp only [Bool.and_false, Bool.false_eq_true, if_false] at he
      simp [wpk_skip, wpk_seq, k_cond, wpk_block, wpk_exit, wpk_ret, wpk_loop, k_ops, k_draw0, t_nil, t_cons, KT_eq, KD_eq, wpo_nil, k_cons, k_step, mt_some, mtk_some, KO_eq, KP_eq, K_normal, K_ret, K_exit, KB_normal, KB_ret, KB_exit, KL_normal, KL_ret, KL_exit, k_ret, k_normal, stepE, isCall, calleeE, opE, wantE, odE, odS, odL, odSL, fget, fput, initE, keepF, List.map_cons, List.map_nil, binE, intOp, strOp, shOp, unE, eqpE, eqnE, neqB, ressE, resE, packL, packE, flat1, fcells, fillE, setL, cellsOf_bind, cellsO_own, cellsO_ro, lenE_sl, lenE_nils, lenE_sl0, bound, rep, minE, maxE, List.getElem?_cons_zero, List.getElem?_cons_succ, get_lt, set_lt, get_len, get_len_add, set_len, set_len_add, List.append_assoc, List.cons_append, List.nil_append, -getElem?_pos, l15_0_2, l15_0_1, l15_0, hlt, hltr, c1, c2, c3, c4, c5, d1, d2, d3, d5, r1, r2]
      exact hΨ _ _ ⟨gr.app _, by rw [← he]⟩
    rw [decide_eq_true e2] at he r2
    simp only [Bool.and_self, if_true] at he
    have o1 := fun h => of_ok (n := b.a) (r := r) (by unfold ofOk; omega) h
    have o2 := ofF_bound e2 e1
    generalize ofF b.a r = q at *
    have w4 : IntKind.i64.wrap (m - q) = m - q := wrap_small (by omega) (by omega)
    simp [wpk_skip, wpk_seq, k_cond, wpk_block, wpk_exit, wpk_ret, wpk_loop, k_ops, k_draw0, t_nil, t_cons, KT_eq, KD_eq, wpo_nil, k_cons, k_step, mt_some, mtk_some, KO_eq, KP_eq, K_normal, K_ret, K_exit, KB_normal, KB_ret, KB_exit, KL_normal, KL_ret, KL_exit, k_ret, k_normal, stepE, isCall, calleeE, opE, wantE, odE, odS, odL, odSL, fget, fput, initE, keepF, List.map_cons, List.map_nil, binE, intOp, strOp, shOp, unE, eqpE, eqnE, neqB, ressE, resE, packL, packE, flat1, fcells, fillE, setL, cellsOf_bind, cellsO_own, cellsO_ro, lenE_sl, lenE_nils, lenE_sl0, bound, rep, minE, maxE, List.getElem?_cons_zero, List.getElem?_cons_succ, get_lt, set_lt, get_len, get_len_add, set_len, set_len_add, List.append_assoc, List.cons_append, List.nil_append, -getElem?_pos, l15_0_2, l15_0_1, l15_0, hlt, hltr, c1, c2, c3, c4, c5, d1, d2, d3, d5, r1, r2, o1, w3, w4]
    exact ⟨_, by omega, hI _ _ _ ⟨gr.app _, k + 1, m - q, hlt, rfl, by omega, by omega, he, rfl⟩⟩
  · obtain rfl : k = bs.length := by omega
    rw [List.drop_eq_nil_of_le (Nat.le_refl _), List.drop_eq_nil_of_le (by omega)] at he
    rw [tempGo_nil] at he
    unfold money at he
    have r2 := fun h => money_ok m h
    by_cases e2 : -100000000000 ≤ m ∧ m ≤ 100000000000
    · rw [decide_eq_true e2] at he r2
      simp only [if_true] at he
      simp [wpk_skip, wpk_seq, k_cond, wpk_block, wpk_exit, wpk_ret, wpk_loop, k_ops, k_draw0, t_nil, t_cons, KT_eq, KD_eq, wpo_nil, k_cons, k_step, mt_some, mtk_some, KO_eq, KP_eq, K_normal, K_ret, K_exit, KB_normal, KB_ret, KB_exit, KL_normal, KL_ret, KL_exit, k_ret, k_normal, stepE, isCall, calleeE, opE, wantE, odE, odS, odL, odSL, fget, fput, initE, keepF, List.map_cons, List.map_nil, binE, intOp, strOp, shOp, unE, eqpE, eqnE, neqB, ressE, resE, packL, packE, flat1, fcells, fillE, setL, cellsOf_bind, cellsO_own, cellsO_ro, lenE_sl, lenE_nils, lenE_sl0, bound, rep, minE, maxE, List.getElem?_cons_zero, List.getElem?_cons_succ, get_lt, set_lt, get_len, get_len_add, set_len, set_len_add, List.append_assoc, List.cons_append, List.nil_append, -getElem?_pos, l15_0_2, l15_0_1, l15_0, hlt, r2]
      exact hΨ _ _ ⟨gr, by rw [← he]⟩
    · rw [decide_eq_false e2] at he r2
      simp only [Bool.false_eq_true, if_false] at he
      simp [wpk_skip, wpk_seq, k_cond, wpk_block, wpk_exit, wpk_ret, wpk_loop, k_ops, k_draw0, t_nil, t_cons, KT_eq, KD_eq, wpo_nil, k_cons, k_step, mt_some, mtk_some, KO_eq, KP_eq, K_normal, K_ret, K_exit, KB_normal, KB_ret, KB_exit, KL_normal, KL_ret, KL_exit, k_ret, k_normal, stepE, isCall, calleeE, opE, wantE, odE, odS, odL, odSL, fget, fput, initE, keepF, List.map_cons, List.map_nil, binE, intOp, strOp, shOp, unE, eqpE, eqnE, neqB, ressE, resE, packL, packE, flat1, fcells, fillE, setL, cellsOf_bind, cellsO_own, cellsO_ro, lenE_sl, lenE_nils, lenE_sl0, bound, rep, minE, maxE, List.getElem?_cons_zero, List.getElem?_cons_succ, get_lt, set_lt, get_len, get_len_add, set_len, set_len_add, List.append_assoc, List.cons_append, List.nil_append, -getElem?_pos, l15_0_2, l15_0_1, l15_0, hlt, r2]
      exact hΨ _ _ ⟨gr, by rw [← he]⟩

def lossF (n r : Int) : Int × Int := if 0 ≤ n ∧ n ≤ 100000000000 ∧ 0 ≤ r ∧ r ≤ 1000000 then (ofF n r, 0) else (0, 1)
theorem loss_ok (n r : Int) (h : LH) : callX C 21 [.s (.int .i64 n), .s (.int .i64 r)] h = some (.tup [.s (.int .i64 (lossF n r).1), .s (.int .i64 (lossF n r).2)], h) := by
  apply callX_wp
  refine WPc.intro (e := e21) rfl (by simp [e21]) ?_
  show WPk C b21 _ _ (KR [.tmp 4, .tmp 5] _)
  unfold lossF
  have r1 := fun h => right_ok r h
  have r2 := fun h => money_ok n h
  by_cases e0 : n < 0
  · rw [if_neg (by omega)]
    simp [wpk_skip, wpk_seq, k_cond, wpk_block, wpk_exit, wpk_ret, wpk_loop, k_ops, k_draw0, t_nil, t_cons, KT_eq, KD_eq, wpo_nil, k_cons, k_step, mt_some, mtk_some, KO_eq, KP_eq, K_normal, K_ret, K_exit, KB_normal, KB_ret, KB_exit, KL_normal, KL_ret, KL_exit, k_ret, k_normal, stepE, isCall, calleeE, opE, wantE, odE, odS, odL, odSL, fget, fput, initE, keepF, List.map_cons, List.map_nil, binE, intOp, strOp, shOp, unE, eqpE, eqnE, neqB, ressE, resE, packL, packE, flat1, fcells, fillE, setL, cellsOf_bind, cellsO_own, cellsO_ro, lenE_sl, lenE_nils, lenE_sl0, bound, rep, minE, maxE, List.getElem?_cons_zero, List.getElem?_cons_succ, get_lt, set_lt, get_len, get_len_add, set_len, set_len_add, List.append_assoc, List.cons_append, List.nil_append, -getElem?_pos, b21, s21_3, s21_2, s21_1, e0]
  by_cases e1 : -100000000000 ≤ n ∧ n ≤ 100000000000
  case neg =>
    rw [if_neg (by omega)]
    rw [decide_eq_false e1] at r2
    simp [wpk_skip, wpk_seq, k_cond, wpk_block, wpk_exit, wpk_ret, wpk_loop, k_ops, k_draw0, t_nil, t_cons, KT_eq, KD_eq, wpo_nil, k_cons, k_step, mt_some, mtk_some, KO_eq, KP_eq, K_normal, K_ret, K_exit, KB_normal, KB_ret, KB_exit, KL_normal, KL_ret, KL_exit, k_ret, k_normal, stepE, isCall, calleeE, opE, wantE, odE, odS, odL, odSL, fget, fput, initE, keepF, List.map_cons, List.map_nil, binE, intOp, strOp, shOp, unE, eqpE, eqnE, neqB, ressE, resE, packL, packE, flat1, fcells, fillE, setL, cellsOf_bind, cellsO_own, cellsO_ro, lenE_sl, lenE_nils, lenE_sl0, bound, rep, minE, maxE, List.getElem?_cons_zero, List.getElem?_cons_succ, get_lt, set_lt, get_len, get_len_add, set_len, set_len_add, List.append_assoc, List.cons_append, List.nil_append, -getElem?_pos, b21, s21_3, s21_2, s21_1, e0, r2]
  rw [decide_eq_true e1] at r2
  by_cases e2 : 0 ≤ r ∧ r ≤ 1000000
  case neg =>
    rw [if_neg (by omega)]
    rw [decide_eq_false e2] at r1
    simp [wpk_skip, wpk_seq, k_cond, wpk_block, wpk_exit, wpk_ret, wpk_loop, k_ops, k_draw0, t_nil, t_cons, KT_eq, KD_eq, wpo_nil, k_cons, k_step, mt_some, mtk_some, KO_eq, KP_eq, K_normal, K_ret, K_exit, KB_normal, KB_ret, KB_exit, KL_normal, KL_ret, KL_exit, k_ret, k_normal, stepE, isCall, calleeE, opE, wantE, odE, odS, odL, odSL, fget, fput, initE, keepF, List.map_cons, List.map_nil, binE, intOp, strOp, shOp, unE, eqpE, eqnE, neqB, ressE, resE, packL, packE, flat1, fcells, fillE, setL, cellsOf_bind, cellsO_own, cellsO_ro, lenE_sl, lenE_nils, lenE_sl0, bound, rep, minE, maxE, List.getElem?_cons_zero, List.getElem?_cons_succ, get_lt, set_lt, get_len, get_len_add, set_len, set_len_add, List.append_assoc, List.cons_append, List.nil_append, -getElem?_pos, b21, s21_3, s21_2, s21_1, e0, r2, r1]
  rw [decide_eq_true e2] at r1
  rw [if_pos (by omega)]
  have o1 := of_ok (n := n) (r := r) (by unfold ofOk; omega) h
  simp [wpk_skip, wpk_seq, k_cond, wpk_block, wpk_exit, wpk_ret, wpk_loop, k_ops, k_draw0, t_nil, t_cons, KT_eq, KD_eq, wpo_nil, k_cons, k_step, mt_some, mtk_some, KO_eq, KP_eq, K_normal, K_ret, K_exit, KB_normal, KB_ret, KB_exit, KL_normal, KL_ret, KL_exit, k_ret, k_normal, stepE, isCall, calleeE, opE, wantE, odE, odS, odL, odSL, fget, fput, initE, keepF, List.map_cons, List.map_nil, binE, intOp, strOp, shOp, unE, eqpE, eqnE, neqB, ressE, resE, packL, packE, flat1, fcells, fillE, setL, cellsOf_bind, cellsO_own, cellsO_ro, lenE_sl, lenE_nils, lenE_sl0, bound, rep, minE, maxE, List.getElem?_cons_zero, List.getElem?_cons_succ, get_lt, set_lt, get_len, get_len_add, set_len, set_len_add, List.append_assoc, List.cons_append, List.nil_append, -getElem?_pos, b21, s21_3, s21_2, s21_1, e0, r2, r1, o1]

theorem mwakes_ok (h : LH) : WPc C 16 [] h fun u h' => Gr h h' ∧ u = .s (.bool true) := by
  refine WPc.post fun Ψ hΨ => ?_
  refine WPc.intro (e := e16) rfl (by simp [e16]) ?_
  show WPk C b16 _ _ (KR [.tmp 0] _)
  simp [wpk_skip, wpk_seq, k_cond, wpk_block, wpk_exit, wpk_ret, wpk_loop, k_ops, k_draw0, t_nil, t_cons, KT_eq, KD_eq, wpo_nil, k_cons, k_step, mt_some, mtk_some, KO_eq, KP_eq, K_normal, K_ret, K_exit, KB_normal, KB_ret, KB_exit, KL_normal, KL_ret, KL_exit, k_ret, k_normal, stepE, isCall, calleeE, opE, wantE, odE, odS, odL, odSL, fget, fput, initE, keepF, List.map_cons, List.map_nil, binE, intOp, strOp, shOp, unE, eqpE, eqnE, neqB, ressE, resE, packL, packE, flat1, fcells, fillE, setL, cellsOf_bind, cellsO_own, cellsO_ro, lenE_sl, lenE_nils, lenE_sl0, bound, rep, minE, maxE, List.getElem?_cons_zero, List.getElem?_cons_succ, get_lt, set_lt, get_len, get_len_add, set_len, set_len_add, List.append_assoc, List.cons_append, List.nil_append, -getElem?_pos, b16, s16_2, s16_1]
  have e1 : (h ++ [LO.own 30 [.int .i64 1, .int .i64 5, .int .i64 100], LO.own 3 [.int .i64 250000]])[h.length]? = some (.own 30 (([⟨1, 5, 100⟩] : List Bu).flatMap encB)) := get_len
  have e2 : (h ++ [LO.own 30 [.int .i64 1, .int .i64 5, .int .i64 100], LO.own 3 [.int .i64 250000]])[h.length + 1]? = some (.own 3 (([250000] : List Int).flatMap encI)) := by rw [get_len_add]; rfl
  refine WPc.go (temp_ok (Rd.lit encB_len e1 (p := 0)) (Rd.lit encI_len e2 (p := 0)) (by decide) (by decide)) ?_
  rintro _ h1 ⟨g1, rfl⟩
  have e : tempF [⟨1, 5, 100⟩] [250000] = (-25, 0) := by decide
  rw [e]
  simp [wpk_skip, wpk_seq, k_cond, wpk_block, wpk_exit, wpk_ret, wpk_loop, k_ops, k_draw0, t_nil, t_cons, KT_eq, KD_eq, wpo_nil, k_cons, k_step, mt_some, mtk_some, KO_eq, KP_eq, K_normal, K_ret, K_exit, KB_normal, KB_ret, KB_exit, KL_normal, KL_ret, KL_exit, k_ret, k_normal, stepE, isCall, calleeE, opE, wantE, odE, odS, odL, odSL, fget, fput, initE, keepF, List.map_cons, List.map_nil, binE, intOp, strOp, shOp, unE, eqpE, eqnE, neqB, ressE, resE, packL, packE, flat1, fcells, fillE, setL, cellsOf_bind, cellsO_own, cellsO_ro, lenE_sl, lenE_nils, lenE_sl0, bound, rep, minE, maxE, List.getElem?_cons_zero, List.getElem?_cons_succ, get_lt, set_lt, get_len, get_len_add, set_len, set_len_add, List.append_assoc, List.cons_append, List.nil_append, -getElem?_pos, ]
  exact hΨ _ _ ⟨(Gr.self h _).trans g1, rfl⟩

/-- The rates of buckets; nothing: one of them isn't known. -/
def ratesGo (l : List Ro) (j : ByteArray) (p : Int) : List Int → List Bu → List Int × Int
  | acc, [] => (acc, 0)
  | acc, b :: bs => match bestF j (max b.y (p / 4)) p l with
    | none => ([], 7)
    | some x => ratesGo l j p (acc ++ [x.r]) bs
theorem ratesGo_cons (l : List Ro) (j : ByteArray) (p : Int) (acc : List Int) (b : Bu) (bs : List Bu) : ratesGo l j p acc (b :: bs) = match bestF j (max b.y (p / 4)) p l with
    | none => ([], 7)
    | some x => ratesGo l j p (acc ++ [x.r]) bs := rfl
theorem ratesGo_nil (l : List Ro) (j : ByteArray) (p : Int) (acc : List Int) : ratesGo l j p acc [] = (acc, 0) := rfl
def ratesF (l : List Ro) (j : ByteArray) (bs : List Bu) (p : Int) : List Int × Int := if 0 ≤ p ∧ p ≤ 399 then ratesGo l j p [] bs else ([], 1)

set_option maxRecDepth 20000 in
theorem rates_ok {b : Nat} {h : LH} {i : Nat} {tv v : SV} {l : List Ro} {bs : List Bu} (t : Tb b h i tv l) (j : ByteArray) (rb : Rd h 30 3 encB v bs) (hl : bs.length < 1000) (p : Int) :
    WPc C 19 [.s (.ptr i 0), .s (.str j), .s v, .s (.int .i64 p)] h fun u h' => Gr h h' ∧ ∃ w, u = .tup [.s w, .s (.int .i64 (ratesF l j bs p).2)] ∧ Rd h' 3 1 encI w (ratesF l j bs p).1 := by
  refine WPc.post fun Ψ hΨ => ?_
  refine WPc.intro (e := e19) rfl (by simp [e19]) ?_
  show WPk C b19 _ _ (KR [.tmp 8, .tmp 9] _)
  have r1 := fun h => period_ok p h
  unfold ratesF at hΨ
  by_cases hp : 0 ≤ p ∧ p ≤ 399
  case neg =>
    rw [decide_eq_false hp] at r1
    rw [if_neg hp] at hΨ
    simp [wpk_skip, wpk_seq, k_cond, wpk_block, wpk_exit, wpk_ret, wpk_loop, k_ops, k_draw0, t_nil, t_cons, KT_eq, KD_eq, wpo_nil, k_cons, k_step, mt_some, mtk_some, KO_eq, KP_eq, K_normal, K_ret, K_exit, KB_normal, KB_ret, KB_exit, KL_normal, KL_ret, KL_exit, k_ret, k_normal, stepE, isCall, calleeE, opE, wantE, odE, odS, odL, odSL, fget, fput, initE, keepF, List.map_cons, List.map_nil, binE, intOp, strOp, shOp, unE, eqpE, eqnE, neqB, ressE, resE, packL, packE, flat1, fcells, fillE, setL, cellsOf_bind, cellsO_own, cellsO_ro, lenE_sl, lenE_nils, lenE_sl0, bound, rep, minE, maxE, List.getElem?_cons_zero, List.getElem?_cons_succ, get_lt, set_lt, get_len, get_len_add, set_len, set_len_add, List.append_assoc, List.cons_append, List.nil_append, -getElem?_pos, b19, s19_4, s19_3, s19_2, s19_1, r1]
    exact hΨ _ _ ⟨Gr.refl _, .nils, rfl, .inl ⟨rfl, .inl rfl⟩⟩
  rw [decide_eq_true hp] at r1
  rw [if_pos hp] at hΨ
  have r2 := fun h => year_of p hp h
  simp [wpk_skip, wpk_seq, k_cond, wpk_block, wpk_exit, wpk_ret, wpk_loop, k_ops, k_draw0, t_nil, t_cons, KT_eq, KD_eq, wpo_nil, k_cons, k_step, mt_some, mtk_some, KO_eq, KP_eq, K_normal, K_ret, K_exit, KB_normal, KB_ret, KB_exit, KL_normal, KL_ret, KL_exit, k_ret, k_normal, stepE, isCall, calleeE, opE, wantE, odE, odS, odL, odSL, fget, fput, initE, keepF, List.map_cons, List.map_nil, binE, intOp, strOp, shOp, unE, eqpE, eqnE, neqB, ressE, resE, packL, packE, flat1, fcells, fillE, setL, cellsOf_bind, cellsO_own, cellsO_ro, lenE_sl, lenE_nils, lenE_sl0, bound, rep, minE, maxE, List.getElem?_cons_zero, List.getElem?_cons_succ, get_lt, set_lt, get_len, get_len_add, set_len, set_len_add, List.append_assoc, List.cons_append, List.nil_append, -getElem?_pos, b19, s19_4, s19_3, s19_2, s19_1, r1, rb.len]
  obtain ⟨T, hT⟩ : ∃ T, T = ratesGo l j p [] bs := ⟨_, rfl⟩
  rw [← hT] at hΨ
  refine WPl.inv2 (fun n fr h' => Gr h h' ∧ ∃ (k : Nat) (w : SV) (acc : List Int), k ≤ bs.length ∧ n = bs.length - k ∧ Ow h.length h' 3 encI w acc ∧ acc.length = k ∧ ratesGo l j p acc (bs.drop k) = T ∧
    fr = [(0, some (.s (.ptr i 0))), (1, some (.s (.str j))), (3, some (.s (.int .i64 p))), (10, some (.s w)), (18, some (.s v)), (19, some (.s (.int .i64 bs.length))), (20, some (.s (.int .i64 k)))]) ?_ _ _ _ ⟨Gr.refl _, 0, .nils, [], Nat.zero_le _, rfl, Ow.nil _ _, rfl, hT.symm, rfl⟩
  rintro I hI n fr h' ⟨gr, k, w, acc, hk, rfl, ow, hacc, he, rfl⟩
  refine ⟨by simp [keepF, fget], ?_⟩
  by_cases hlt : k < bs.length
  · obtain ⟨j0, p0, q0, ob0, vs0, rfl, c1, c2, c3, c4, -⟩ := (rb.gr gr).at encB_len hlt
    have c5 := lt_of_some c1
    rw [List.drop_eq_getElem_cons hlt] at he
    have w3 : IntKind.i64.wrap ((k : Int) + 1) = ((k + 1 : Nat) : Int) := wrap_small (by omega) (by omega)
    simp only [encB] at c4
    rw [ratesGo_cons] at he
    generalize bs[k] = x at *
    have hmx : (if p / 4 > x.y then p / 4 else x.y) = max x.y (p / 4) := by split <;> omega
    simp [wpk_skip, wpk_seq, k_cond, wpk_block, wpk_exit, wpk_ret, wpk_loop, k_ops, k_draw0, t_nil, t_cons, KT_eq, KD_eq, wpo_nil, k_cons, k_step, mt_some, mtk_some, KO_eq, KP_eq, K_normal, K_ret, K_exit, KB_normal, KB_ret, KB_exit, KL_normal, KL_ret, KL_exit, k_ret, k_normal, stepE, isCall, calleeE, opE, wantE, odE, odS, odL, odSL, fget, fput, initE, keepF, List.map_cons, List.map_nil, binE, intOp, strOp, shOp, unE, eqpE, eqnE, neqB, ressE, resE, packL, packE, flat1, fcells, fillE, setL, cellsOf_bind, cellsO_own, cellsO_ro, lenE_sl, lenE_nils, lenE_sl0, bound, rep, minE, maxE, List.getElem?_cons_zero, List.getElem?_cons_succ, get_lt, set_lt, get_len, get_len_add, set_len, set_len_add, List.append_assoc, List.cons_append, List.nil_append, -getElem?_pos, l19_0_2, l19_0_1, l19_0, hlt, c1, c2, c3, c4, c5]
    refine k_draw ?_
    simp [wpk_skip, wpk_seq, k_cond, wpk_block, wpk_exit, wpk_ret, wpk_loop, k_ops, k_draw0, t_nil, t_cons, KT_eq, KD_eq, wpo_nil, k_cons, k_step, mt_some, mtk_some, KO_eq, KP_eq, K_normal, K_ret, K_exit, KB_normal, KB_ret, KB_exit, KL_normal, KL_ret, KL_exit, k_ret, k_normal, stepE, isCall, calleeE, opE, wantE, odE, odS, odL, odSL, fget, fput, initE, keepF, List.map_cons, List.map_nil, binE, intOp, strOp, shOp, unE, eqpE, eqnE, neqB, ressE, resE, packL, packE, flat1, fcells, fillE, setL, cellsOf_bind, cellsO_own, cellsO_ro, lenE_sl, lenE_nils, lenE_sl0, bound, rep, minE, maxE, List.getElem?_cons_zero, List.getElem?_cons_succ, get_lt, set_lt, get_len, get_len_add, set_len, set_len_add, List.append_assoc, List.cons_append, List.nil_append, slotsG, slotsE, odT, odsT, optT, partsT, okPairs, okPair, changesE, rdAft, rdO, frLt, nmV, nmVL, nmL, nmS, -getElem?_pos, r2, hmx]
    refine WPc.go (((t.gr gr).gr (Gr.self h' _)).rate j (max x.y (p / 4)) p) ?_
    rintro _ h2 ⟨g2, rfl⟩
    have gg := (gr.trans (Gr.self h' _)).trans g2
    cases hb : bestF j (max x.y (p / 4)) p l with
    | none =>
      rw [hb] at he
      simp only at he
      simp [wpk_skip, wpk_seq, k_cond, wpk_block, wpk_exit, wpk_ret, wpk_loop, k_ops, k_draw0, t_nil, t_cons, KT_eq, KD_eq, wpo_nil, k_cons, k_step, mt_some, mtk_some, KO_eq, KP_eq, K_normal, K_ret, K_exit, KB_normal, KB_ret, KB_exit, KL_normal, KL_ret, KL_exit, k_ret, k_normal, stepE, isCall, calleeE, opE, wantE, odE, odS, odL, odSL, fget, fput, initE, keepF, List.map_cons, List.map_nil, binE, intOp, strOp, shOp, unE, eqpE, eqnE, neqB, ressE, resE, packL, packE, flat1, fcells, fillE, setL, cellsOf_bind, cellsO_own, cellsO_ro, lenE_sl, lenE_nils, lenE_sl0, bound, rep, minE, maxE, List.getElem?_cons_zero, List.getElem?_cons_succ, get_lt, set_lt, get_len, get_len_add, set_len, set_len_add, List.append_assoc, List.cons_append, List.nil_append, slotsG, slotsE, odT, odsT, optT, partsT, okPairs, okPair, changesE, rdAft, rdO, frLt, nmV, nmVL, nmL, nmS, -getElem?_pos, r2, hmx]
      exact hΨ _ _ ⟨gg, .nils, by rw [← he], by rw [← he]; exact .inl ⟨rfl, .inl rfl⟩⟩
    | some y =>
      rw [hb] at he
      simp only at he
      have ow2 := (ow.gr (Gr.self h' _)).gr g2
      have hA := ow2.app1 (y := 8) encI_len (by omega)
      obtain ⟨f1, f2⟩ := Ow.step gg ow2 y.r [LO.own 3 [.int .i64 y.r]] (n := acc.length + 1) (cs := [.int .i64 y.r]) (m := 1) rfl rfl rfl
      simp [wpk_skip, wpk_seq, k_cond, wpk_block, wpk_exit, wpk_ret, wpk_loop, k_ops, k_draw0, t_nil, t_cons, KT_eq, KD_eq, wpo_nil, k_cons, k_step, mt_some, mtk_some, KO_eq, KP_eq, K_normal, K_ret, K_exit, KB_normal, KB_ret, KB_exit, KL_normal, KL_ret, KL_exit, k_ret, k_normal, stepE, isCall, calleeE, opE, wantE, odE, odS, odL, odSL, fget, fput, initE, keepF, List.map_cons, List.map_nil, binE, intOp, strOp, shOp, unE, eqpE, eqnE, neqB, ressE, resE, packL, packE, flat1, fcells, fillE, setL, cellsOf_bind, cellsO_own, cellsO_ro, lenE_sl, lenE_nils, lenE_sl0, bound, rep, minE, maxE, List.getElem?_cons_zero, List.getElem?_cons_succ, get_lt, set_lt, get_len, get_len_add, set_len, set_len_add, List.append_assoc, List.cons_append, List.nil_append, slotsG, slotsE, odT, odsT, optT, partsT, okPairs, okPair, changesE, rdAft, rdO, frLt, nmV, nmVL, nmL, nmS, -getElem?_pos, r2, hmx, rateOf, elems, hA, w3]
      exact ⟨_, by omega, hI _ _ _ ⟨f1, k + 1, _, acc ++ [y.r], hlt, rfl, f2, by simp [hacc], he, rfl⟩⟩
  · obtain rfl : k = bs.length := by omega
    rw [List.drop_eq_nil_of_le (Nat.le_refl _)] at he
    rw [ratesGo_nil] at he
    simp [wpk_skip, wpk_seq, k_cond, wpk_block, wpk_exit, wpk_ret, wpk_loop, k_ops, k_draw0, t_nil, t_cons, KT_eq, KD_eq, wpo_nil, k_cons, k_step, mt_some, mtk_some, KO_eq, KP_eq, K_normal, K_ret, K_exit, KB_normal, KB_ret, KB_exit, KL_normal, KL_ret, KL_exit, k_ret, k_normal, stepE, isCall, calleeE, opE, wantE, odE, odS, odL, odSL, fget, fput, initE, keepF, List.map_cons, List.map_nil, binE, intOp, strOp, shOp, unE, eqpE, eqnE, neqB, ressE, resE, packL, packE, flat1, fcells, fillE, setL, cellsOf_bind, cellsO_own, cellsO_ro, lenE_sl, lenE_nils, lenE_sl0, bound, rep, minE, maxE, List.getElem?_cons_zero, List.getElem?_cons_succ, get_lt, set_lt, get_len, get_len_add, set_len, set_len_add, List.append_assoc, List.cons_append, List.nil_append, -getElem?_pos, l19_0_2, l19_0_1, l19_0, hlt]
    exact hΨ _ _ ⟨gr, w, by rw [← he], by rw [← he]; exact ow.rd encI_len⟩

def nextF (l : List Ro) (j : ByteArray) (p : Int) : Int × Int := if 0 ≤ p ∧ p ≤ 399 then (match bestF j (min (p / 4 + 1) 99) p l with
  | none => (0, 7)
  | some x => (x.r, 0)) else (0, 1)
theorem next_ok {b : Nat} {h : LH} {i : Nat} {tv : SV} {l : List Ro} (t : Tb b h i tv l) (j : ByteArray) (p : Int) :
    WPc C 24 [.s (.ptr i 0), .s (.str j), .s (.int .i64 p)] h fun u h' => Gr h h' ∧ u = .tup [.s (.int .i64 (nextF l j p).1), .s (.int .i64 (nextF l j p).2)] := by
  refine WPc.post fun Ψ hΨ => ?_
  refine WPc.intro (e := e24) rfl (by simp [e24]) ?_
  show WPk C b24 _ _ (KR [.tmp 6, .tmp 7] _)
  have r1 := fun h => period_ok p h
  unfold nextF at hΨ
  by_cases hp : 0 ≤ p ∧ p ≤ 399
  case neg =>
    rw [decide_eq_false hp] at r1
    rw [if_neg hp] at hΨ
    simp [wpk_skip, wpk_seq, k_cond, wpk_block, wpk_exit, wpk_ret, wpk_loop, k_ops, k_draw0, t_nil, t_cons, KT_eq, KD_eq, wpo_nil, k_cons, k_step, mt_some, mtk_some, KO_eq, KP_eq, K_normal, K_ret, K_exit, KB_normal, KB_ret, KB_exit, KL_normal, KL_ret, KL_exit, k_ret, k_normal, stepE, isCall, calleeE, opE, wantE, odE, odS, odL, odSL, fget, fput, initE, keepF, List.map_cons, List.map_nil, binE, intOp, strOp, shOp, unE, eqpE, eqnE, neqB, ressE, resE, packL, packE, flat1, fcells, fillE, setL, cellsOf_bind, cellsO_own, cellsO_ro, lenE_sl, lenE_nils, lenE_sl0, bound, rep, minE, maxE, List.getElem?_cons_zero, List.getElem?_cons_succ, get_lt, set_lt, get_len, get_len_add, set_len, set_len_add, List.append_assoc, List.cons_append, List.nil_append, -getElem?_pos, b24, s24_4, s24_3, s24_2, s24_1, r1]
    exact hΨ _ _ ⟨Gr.refl _, rfl⟩
  rw [decide_eq_true hp] at r1
  rw [if_pos hp] at hΨ
  have r2 := fun h => year_of p hp h
  have w1 : IntKind.i64.wrap (p / 4 + 1) = p / 4 + 1 := wrap_small (by omega) (by omega)
  have hmn : (if 99 < p / 4 + 1 then 99 else p / 4 + 1) = min (p / 4 + 1) 99 := by split <;> omega
  simp [wpk_skip, wpk_seq, k_cond, wpk_block, wpk_exit, wpk_ret, wpk_loop, k_ops, k_draw0, t_nil, t_cons, KT_eq, KD_eq, wpo_nil, k_cons, k_step, mt_some, mtk_some, KO_eq, KP_eq, K_normal, K_ret, K_exit, KB_normal, KB_ret, KB_exit, KL_normal, KL_ret, KL_exit, k_ret, k_normal, stepE, isCall, calleeE, opE, wantE, odE, odS, odL, odSL, fget, fput, initE, keepF, List.map_cons, List.map_nil, binE, intOp, strOp, shOp, unE, eqpE, eqnE, neqB, ressE, resE, packL, packE, flat1, fcells, fillE, setL, cellsOf_bind, cellsO_own, cellsO_ro, lenE_sl, lenE_nils, lenE_sl0, bound, rep, minE, maxE, List.getElem?_cons_zero, List.getElem?_cons_succ, get_lt, set_lt, get_len, get_len_add, set_len, set_len_add, List.append_assoc, List.cons_append, List.nil_append, -getElem?_pos, b24, s24_4, s24_3, s24_2, s24_1, r1, r2, w1, hmn]
  refine WPc.go (t.rate j (min (p / 4 + 1) 99) p) ?_
  rintro _ h2 ⟨g2, rfl⟩
  cases hb : bestF j (min (p / 4 + 1) 99) p l with
  | none =>
    rw [hb] at hΨ
    simp [wpk_skip, wpk_seq, k_cond, wpk_block, wpk_exit, wpk_ret, wpk_loop, k_ops, k_draw0, t_nil, t_cons, KT_eq, KD_eq, wpo_nil, k_cons, k_step, mt_some, mtk_some, KO_eq, KP_eq, K_normal, K_ret, K_exit, KB_normal, KB_ret, KB_exit, KL_normal, KL_ret, KL_exit, k_ret, k_normal, stepE, isCall, calleeE, opE, wantE, odE, odS, odL, odSL, fget, fput, initE, keepF, List.map_cons, List.map_nil, binE, intOp, strOp, shOp, unE, eqpE, eqnE, neqB, ressE, resE, packL, packE, flat1, fcells, fillE, setL, cellsOf_bind, cellsO_own, cellsO_ro, lenE_sl, lenE_nils, lenE_sl0, bound, rep, minE, maxE, List.getElem?_cons_zero, List.getElem?_cons_succ, get_lt, set_lt, get_len, get_len_add, set_len, set_len_add, List.append_assoc, List.cons_append, List.nil_append, -getElem?_pos, ]
    exact hΨ _ _ ⟨g2, rfl⟩
  | some x =>
    rw [hb] at hΨ
    simp [wpk_skip, wpk_seq, k_cond, wpk_block, wpk_exit, wpk_ret, wpk_loop, k_ops, k_draw0, t_nil, t_cons, KT_eq, KD_eq, wpo_nil, k_cons, k_step, mt_some, mtk_some, KO_eq, KP_eq, K_normal, K_ret, K_exit, KB_normal, KB_ret, KB_exit, KL_normal, KL_ret, KL_exit, k_ret, k_normal, stepE, isCall, calleeE, opE, wantE, odE, odS, odL, odSL, fget, fput, initE, keepF, List.map_cons, List.map_nil, binE, intOp, strOp, shOp, unE, eqpE, eqnE, neqB, ressE, resE, packL, packE, flat1, fcells, fillE, setL, cellsOf_bind, cellsO_own, cellsO_ro, lenE_sl, lenE_nils, lenE_sl0, bound, rep, minE, maxE, List.getElem?_cons_zero, List.getElem?_cons_succ, get_lt, set_lt, get_len, get_len_add, set_len, set_len_add, List.append_assoc, List.cons_append, List.nil_append, -getElem?_pos, rateOf]
    exact hΨ _ _ ⟨g2, rfl⟩
end Go.Proofs.Ytcimcccnhbbncaa.Ev.CE
