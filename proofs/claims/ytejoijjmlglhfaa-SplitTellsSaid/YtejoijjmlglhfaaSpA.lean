/- Parts of an amount on the small machine. -/
import Derived.Test.YtejoijjmlglhfaaCodeS
set_option linter.unusedSimpArgs false
set_option linter.unusedVariables false
namespace Go.Proofs.Ytejoijjmlglhfaa.Ev.CS
open Go

theorem within_ok (v n : Int) (hn : 1 ≤ n ∧ n ≤ 1000000000000) (h : LH) : callX C 8 [.s (.int .i64 v), .s (.int .i64 n)] h = some (.s (.int .i64 (v % n)), h) := by
  apply callX_wp
  refine WPc.intro (e := e8) rfl (by simp [e8]) ?_
  show WPk C b8 _ _ (KR [.tmp 4] _)
  have h1 : ¬ (n < 1) := by omega
  have h2 : ¬ (n = 0) := by omega
  have q1 := Int.tmod_lt_of_pos v (show 0 < n by omega)
  have q2 := Int.lt_tmod_of_pos v (show 0 < n by omega)
  have key : v.tmod n = if v.tmod n < 0 then v % n - n else v % n := by
    have e : v % n = (v.tmod n) % n := by
      have h := Int.mul_tdiv_add_tmod v n
      calc v % n = (n * v.tdiv n + v.tmod n) % n := by rw [h]
        _ = (v.tmod n) % n := by rw [Int.add_comm, Int.add_mul_emod_self_left]
    split
    · have : (v.tmod n) % n = v.tmod n + n := by
        rw [← Int.add_emod_right, Int.emod_eq_of_lt (by omega) (by omega)]
      omega
    · rw [e, Int.emod_eq_of_lt (by omega) (by omega)]
  have hlt := Int.emod_lt_of_pos v (show 0 < n by omega)
  have hge := Int.emod_nonneg v (show n ≠ 0 by omega)
  by_cases hk : v.tmod n < 0
  · rw [if_pos hk] at key
    have hw : IntKind.i64.wrap (v.tmod n + n) = v % n := by rw [wrap_small (by omega) (by omega)]; omega
    simp [wpk_skip, wpk_seq, k_cond, wpk_block, wpk_exit, wpk_ret, wpk_loop, k_ops, k_draw0, t_nil, t_cons, KT_eq, KD_eq, wpo_nil, k_cons, k_step, mt_some, mtk_some, KO_eq, KP_eq, K_normal, K_ret, K_exit, KB_normal, KB_ret, KB_exit, KL_normal, KL_ret, KL_exit, k_ret, k_normal, stepE, isCall, calleeE, opE, wantE, odE, odS, odL, odSL, fget, fput, initE, keepF, List.map_cons, List.map_nil, binE, intOp, strOp, shOp, unE, eqpE, eqnE, neqB, ressE, resE, packL, packE, flat1, fcells, fillE, setL, cellsOf_bind, cellsO_own, cellsO_ro, lenE_sl, lenE_nils, lenE_sl0, bound, rep, minE, maxE, List.getElem?_cons_zero, List.getElem?_cons_succ, get_lt, set_lt, get_len, get_len_add, set_len, set_len_add, List.append_assoc, List.cons_append, List.nil_append, -getElem?_pos, b8, s8_4, s8_3, s8_2, s8_1, h1, h2, hk, hw]
  · rw [if_neg hk] at key
    simp [wpk_skip, wpk_seq, k_cond, wpk_block, wpk_exit, wpk_ret, wpk_loop, k_ops, k_draw0, t_nil, t_cons, KT_eq, KD_eq, wpo_nil, k_cons, k_step, mt_some, mtk_some, KO_eq, KP_eq, K_normal, K_ret, K_exit, KB_normal, KB_ret, KB_exit, KL_normal, KL_ret, KL_exit, k_ret, k_normal, stepE, isCall, calleeE, opE, wantE, odE, odS, odL, odSL, fget, fput, initE, keepF, List.map_cons, List.map_nil, binE, intOp, strOp, shOp, unE, eqpE, eqnE, neqB, ressE, resE, packL, packE, flat1, fcells, fillE, setL, cellsOf_bind, cellsO_own, cellsO_ro, lenE_sl, lenE_nils, lenE_sl0, bound, rep, minE, maxE, List.getElem?_cons_zero, List.getElem?_cons_succ, get_lt, set_lt, get_len, get_len_add, set_len, set_len_add, List.append_assoc, List.cons_append, List.nil_append, -getElem?_pos, b8, s8_4, s8_3, s8_2, s8_1, h1, h2, hk]
    exact key


theorem money_ok (p : Int) (h : LH) : callX C 17 [.s (.int .i64 p)] h = some (.s (.bool (decide (-100000000000 ≤ p ∧ p ≤ 100000000000))), h) := by
  apply callX_wp
  refine WPc.intro (e := e17) rfl (by simp [e17]) ?_
  show WPk C b17 _ _ (KR [.tmp 2] _)
  by_cases h0 : p ≥ -100000000000
  · simp [wpk_skip, wpk_seq, k_cond, wpk_block, wpk_exit, wpk_ret, wpk_loop, k_ops, k_draw0, t_nil, t_cons, KT_eq, KD_eq, wpo_nil, k_cons, k_step, mt_some, mtk_some, KO_eq, KP_eq, K_normal, K_ret, K_exit, KB_normal, KB_ret, KB_exit, KL_normal, KL_ret, KL_exit, k_ret, k_normal, stepE, isCall, calleeE, opE, wantE, odE, odS, odL, odSL, fget, fput, initE, keepF, List.map_cons, List.map_nil, binE, intOp, strOp, shOp, unE, eqpE, eqnE, neqB, ressE, resE, packL, packE, flat1, fcells, fillE, setL, cellsOf_bind, cellsO_own, cellsO_ro, lenE_sl, lenE_nils, lenE_sl0, bound, rep, minE, maxE, List.getElem?_cons_zero, List.getElem?_cons_succ, get_lt, set_lt, get_len, get_len_add, set_len, set_len_add, List.append_assoc, List.cons_append, List.nil_append, -getElem?_pos, b17, s17_1, h0]
  · simp [wpk_skip, wpk_seq, k_cond, wpk_block, wpk_exit, wpk_ret, wpk_loop, k_ops, k_draw0, t_nil, t_cons, KT_eq, KD_eq, wpo_nil, k_cons, k_step, mt_some, mtk_some, KO_eq, KP_eq, K_normal, K_ret, K_exit, KB_normal, KB_ret, KB_exit, KL_normal, KL_ret, KL_exit, k_ret, k_normal, stepE, isCall, calleeE, opE, wantE, odE, odS, odL, odSL, fget, fput, initE, keepF, List.map_cons, List.map_nil, binE, intOp, strOp, shOp, unE, eqpE, eqnE, neqB, ressE, resE, packL, packE, flat1, fcells, fillE, setL, cellsOf_bind, cellsO_own, cellsO_ro, lenE_sl, lenE_nils, lenE_sl0, bound, rep, minE, maxE, List.getElem?_cons_zero, List.getElem?_cons_succ, get_lt, set_lt, get_len, get_len_add, set_len, set_len_add, List.append_assoc, List.cons_append, List.nil_append, -getElem?_pos, b17, s17_1, h0]

theorem same_ok {h : LH} {v w : SV} {l m : List Int} (r : Rd h 3 1 encI v l) (q : Rd h 3 1 encI w m) (hl : l.length < 1000000) : callX C 11 [.s v, .s w] h = some (.s (.bool (decide (l = m))), h) := by
  apply callX_wp
  refine WPc.intro (e := e11) rfl (by simp [e11]) ?_
  show WPk C b11 _ _ (KR [.tmp 4] _)
  by_cases hlen : l.length = m.length
  · have hlen' : ((l.length : Int) != m.length) = false := by simp [hlen]
    simp [wpk_skip, wpk_seq, k_cond, wpk_block, wpk_exit, wpk_ret, wpk_loop, k_ops, k_draw0, t_nil, t_cons, KT_eq, KD_eq, wpo_nil, k_cons, k_step, mt_some, mtk_some, KO_eq, KP_eq, K_normal, K_ret, K_exit, KB_normal, KB_ret, KB_exit, KL_normal, KL_ret, KL_exit, k_ret, k_normal, stepE, isCall, calleeE, opE, wantE, odE, odS, odL, odSL, fget, fput, initE, keepF, List.map_cons, List.map_nil, binE, intOp, strOp, shOp, unE, eqpE, eqnE, neqB, ressE, resE, packL, packE, flat1, fcells, fillE, setL, cellsOf_bind, cellsO_own, cellsO_ro, lenE_sl, lenE_nils, lenE_sl0, bound, rep, minE, maxE, List.getElem?_cons_zero, List.getElem?_cons_succ, get_lt, set_lt, get_len, get_len_add, set_len, set_len_add, List.append_assoc, List.cons_append, List.nil_append, -getElem?_pos, b11, s11_3, s11_2, s11_1, r.len, q.len, hlen']
    refine WPl.inv (fun n fr h' => h' = h ∧ ∃ k, k ≤ l.length ∧ n = l.length - k ∧ l.take k = m.take k ∧ fr = [(0, some (.s v)), (1, some (.s w)), (5, some (.s (.int .i64 k)))]) ?_ _ _ _ ⟨rfl, 0, Nat.zero_le _, rfl, by simp, by simp⟩
    rintro n fr h' ⟨rfl, k, hk, rfl, ht, rfl⟩
    refine ⟨by simp [keepF, fget], ?_⟩
    have rl := r.len
    have ql := q.len
    by_cases hlt : k < l.length
    · obtain ⟨i, p, o, ob, vs, rfl, q2, q3, q4⟩ := r.int hlt
      obtain ⟨i', p', o', ob', vs', rfl, u2, u3, u4⟩ := q.int (k := k) (by omega)
      have hlt' : k < m.length := by omega
      have w3 : IntKind.i64.wrap ((k : Int) + 1) = ((k + 1 : Nat) : Int) := wrap_small (by omega) (by omega)
      by_cases hv : l[k] = m[k]
      · have hv' : (l[k] != m[k]) = false := by simp [hv]
        simp [wpk_skip, wpk_seq, k_cond, wpk_block, wpk_exit, wpk_ret, wpk_loop, k_ops, k_draw0, t_nil, t_cons, KT_eq, KD_eq, wpo_nil, k_cons, k_step, mt_some, mtk_some, KO_eq, KP_eq, K_normal, K_ret, K_exit, KB_normal, KB_ret, KB_exit, KL_normal, KL_ret, KL_exit, k_ret, k_normal, stepE, isCall, calleeE, opE, wantE, odE, odS, odL, odSL, fget, fput, initE, keepF, List.map_cons, List.map_nil, binE, intOp, strOp, shOp, unE, eqpE, eqnE, neqB, ressE, resE, packL, packE, flat1, fcells, fillE, setL, cellsOf_bind, cellsO_own, cellsO_ro, lenE_sl, lenE_nils, lenE_sl0, bound, rep, minE, maxE, List.getElem?_cons_zero, List.getElem?_cons_succ, get_lt, set_lt, get_len, get_len_add, set_len, set_len_add, List.append_assoc, List.cons_append, List.nil_append, -getElem?_pos, l11_0_1, l11_0, hlt, hlt', q2, q3, q4, u2, u3, u4, hv', w3]
        exact ⟨_, by omega, k + 1, hlt, rfl, by rw [List.take_succ_eq_append_getElem hlt, List.take_succ_eq_append_getElem hlt', ht, hv], rfl⟩
      · have hv' : (l[k] != m[k]) = true := by simp [hv]
        have hne : l ≠ m := fun e => hv (by subst e; rfl)
        simp [wpk_skip, wpk_seq, k_cond, wpk_block, wpk_exit, wpk_ret, wpk_loop, k_ops, k_draw0, t_nil, t_cons, KT_eq, KD_eq, wpo_nil, k_cons, k_step, mt_some, mtk_some, KO_eq, KP_eq, K_normal, K_ret, K_exit, KB_normal, KB_ret, KB_exit, KL_normal, KL_ret, KL_exit, k_ret, k_normal, stepE, isCall, calleeE, opE, wantE, odE, odS, odL, odSL, fget, fput, initE, keepF, List.map_cons, List.map_nil, binE, intOp, strOp, shOp, unE, eqpE, eqnE, neqB, ressE, resE, packL, packE, flat1, fcells, fillE, setL, cellsOf_bind, cellsO_own, cellsO_ro, lenE_sl, lenE_nils, lenE_sl0, bound, rep, minE, maxE, List.getElem?_cons_zero, List.getElem?_cons_succ, get_lt, set_lt, get_len, get_len_add, set_len, set_len_add, List.append_assoc, List.cons_append, List.nil_append, -getElem?_pos, l11_0_1, l11_0, hlt, hlt', q2, q3, q4, u2, u3, u4, hv', w3, hne]
    · obtain rfl : k = l.length := by omega
      have he : l = m := by rw [List.take_length, List.take_of_length_le (by omega)] at ht; exact ht
      simp [wpk_skip, wpk_seq, k_cond, wpk_block, wpk_exit, wpk_ret, wpk_loop, k_ops, k_draw0, t_nil, t_cons, KT_eq, KD_eq, wpo_nil, k_cons, k_step, mt_some, mtk_some, KO_eq, KP_eq, K_normal, K_ret, K_exit, KB_normal, KB_ret, KB_exit, KL_normal, KL_ret, KL_exit, k_ret, k_normal, stepE, isCall, calleeE, opE, wantE, odE, odS, odL, odSL, fget, fput, initE, keepF, List.map_cons, List.map_nil, binE, intOp, strOp, shOp, unE, eqpE, eqnE, neqB, ressE, resE, packL, packE, flat1, fcells, fillE, setL, cellsOf_bind, cellsO_own, cellsO_ro, lenE_sl, lenE_nils, lenE_sl0, bound, rep, minE, maxE, List.getElem?_cons_zero, List.getElem?_cons_succ, get_lt, set_lt, get_len, get_len_add, set_len, set_len_add, List.append_assoc, List.cons_append, List.nil_append, -getElem?_pos, l11_0_1, l11_0, hlt, rl, he]
  · have hlen' : ((l.length : Int) != m.length) = true := by simp; omega
    have hne : l ≠ m := fun e => hlen (by rw [e])
    simp [wpk_skip, wpk_seq, k_cond, wpk_block, wpk_exit, wpk_ret, wpk_loop, k_ops, k_draw0, t_nil, t_cons, KT_eq, KD_eq, wpo_nil, k_cons, k_step, mt_some, mtk_some, KO_eq, KP_eq, K_normal, K_ret, K_exit, KB_normal, KB_ret, KB_exit, KL_normal, KL_ret, KL_exit, k_ret, k_normal, stepE, isCall, calleeE, opE, wantE, odE, odS, odL, odSL, fget, fput, initE, keepF, List.map_cons, List.map_nil, binE, intOp, strOp, shOp, unE, eqpE, eqnE, neqB, ressE, resE, packL, packE, flat1, fcells, fillE, setL, cellsOf_bind, cellsO_own, cellsO_ro, lenE_sl, lenE_nils, lenE_sl0, bound, rep, minE, maxE, List.getElem?_cons_zero, List.getElem?_cons_succ, get_lt, set_lt, get_len, get_len_add, set_len, set_len_add, List.append_assoc, List.cons_append, List.nil_append, -getElem?_pos, b11, s11_3, s11_2, s11_1, r.len, q.len, hlen', hne]

theorem copy_ok {h : LH} {v : SV} {l : List Int} (r : Rd h 3 1 encI v l) (hl : l.length * 8 ≤ 140737488355328) : WPc C 14 [.s v] h fun u h' => Gr h h' ∧ ∃ w, u = .s w ∧ Ow h.length h' 3 encI w l := by
  refine WPc.post fun Ψ hΨ => ?_
  refine WPc.intro (e := e14) rfl (by simp [e14]) ?_
  show WPk C b14 _ _ (KR [.tmp 2] _)
  obtain ⟨w, r', e, ow⟩ := copy_app (y := 8) r (by omega)
  have he := r.elems
  rw [encI_flat] at he
  simp [wpk_skip, wpk_seq, k_cond, wpk_block, wpk_exit, wpk_ret, wpk_loop, k_ops, k_draw0, t_nil, t_cons, KT_eq, KD_eq, wpo_nil, k_cons, k_step, mt_some, mtk_some, KO_eq, KP_eq, K_normal, K_ret, K_exit, KB_normal, KB_ret, KB_exit, KL_normal, KL_ret, KL_exit, k_ret, k_normal, stepE, isCall, calleeE, opE, wantE, odE, odS, odL, odSL, fget, fput, initE, keepF, List.map_cons, List.map_nil, binE, intOp, strOp, shOp, unE, eqpE, eqnE, neqB, ressE, resE, packL, packE, flat1, fcells, fillE, setL, cellsOf_bind, cellsO_own, cellsO_ro, lenE_sl, lenE_nils, lenE_sl0, bound, rep, minE, maxE, List.getElem?_cons_zero, List.getElem?_cons_succ, get_lt, set_lt, get_len, get_len_add, set_len, set_len_add, List.append_assoc, List.cons_append, List.nil_append, -getElem?_pos, b14, s14_1, r.len, he, e]
  exact hΨ _ _ ⟨Gr.self _ _, w, rfl, ow⟩


theorem sum_nonneg : ∀ {l : List Int}, (∀ x ∈ l, 0 ≤ x) → 0 ≤ l.sum
  | [], _ => by simp
  | a :: l, h => by
    have := sum_nonneg (l := l) fun x hx => h x (List.mem_cons_of_mem _ hx)
    have := h a List.mem_cons_self
    simp; omega
theorem sum_take_le {l : List Int} (h : ∀ x ∈ l, 0 ≤ x) (k : Nat) : 0 ≤ (l.take k).sum ∧ (l.take k).sum ≤ l.sum := by
  have e := congrArg List.sum (List.take_append_drop k l)
  rw [List.sum_append] at e
  have a := sum_nonneg (l := l.take k) fun x hx => h x (List.mem_of_mem_take hx)
  have b := sum_nonneg (l := l.drop k) fun x hx => h x (List.mem_of_mem_drop hx)
  omega
theorem sum_take_succ (l : List Int) {k : Nat} (hk : k < l.length) : (l.take (k + 1)).sum = (l.take k).sum + l[k] := by
  rw [List.take_succ_eq_append_getElem hk, List.sum_append]; simp


def wR (x : Int) : Bool := decide (0 ≤ x ∧ x ≤ 1000000)
def rightF (l : List Int) : Int × Bool := if l.all wR then (l.sum, decide (0 < l.sum) && decide (l.length ≤ 16)) else (0, false)

theorem all_take_succ {l : List Int} {k : Nat} (hk : k < l.length) (p : Int → Bool) : (l.take (k + 1)).all p = ((l.take k).all p && p l[k]) := by
  rw [List.take_succ_eq_append_getElem hk, List.all_append]; simp
theorem all_bad {l : List Int} {k : Nat} (hk : k < l.length) {p : Int → Bool} (h : p l[k] = false) : l.all p = false := by
  rw [List.all_eq_false]
  exact ⟨_, List.getElem_mem hk, by simp [h]⟩
theorem sum_bound : ∀ {l : List Int}, l.all wR = true → 0 ≤ l.sum ∧ l.sum ≤ 1000000 * l.length
  | [], _ => by simp
  | a :: l, h => by
    simp only [List.all_cons, Bool.and_eq_true] at h
    have := sum_bound h.2
    have h1 := of_decide_eq_true h.1
    simp only [List.sum_cons, List.length_cons]
    omega

theorem right_ok {h : LH} {v : SV} {l : List Int} (r : Rd h 3 1 encI v l) (hl : l.length < 1000000) : callX C 16 [.s v] h = some (.tup [.s (.int .i64 (rightF l).1), .s (.bool (rightF l).2)], h) := by
  apply callX_wp
  refine WPc.post fun Ψ hΨ => ?_
  refine WPc.intro (e := e16) rfl (by simp [e16]) ?_
  show WPk C b16 _ _ (KR [.tmp 2, .tmp 3] _)
  have rl := r.len
  simp [wpk_skip, wpk_seq, k_cond, wpk_block, wpk_exit, wpk_ret, wpk_loop, k_ops, k_draw0, t_nil, t_cons, KT_eq, KD_eq, wpo_nil, k_cons, k_step, mt_some, mtk_some, KO_eq, KP_eq, K_normal, K_ret, K_exit, KB_normal, KB_ret, KB_exit, KL_normal, KL_ret, KL_exit, k_ret, k_normal, stepE, isCall, calleeE, opE, wantE, odE, odS, odL, odSL, fget, fput, initE, keepF, List.map_cons, List.map_nil, binE, intOp, strOp, shOp, unE, eqpE, eqnE, neqB, ressE, resE, packL, packE, flat1, fcells, fillE, setL, cellsOf_bind, cellsO_own, cellsO_ro, lenE_sl, lenE_nils, lenE_sl0, bound, rep, minE, maxE, List.getElem?_cons_zero, List.getElem?_cons_succ, get_lt, set_lt, get_len, get_len_add, set_len, set_len_add, List.append_assoc, List.cons_append, List.nil_append, -getElem?_pos, b16, s16_3, s16_2, s16_1, rl]
  refine WPl.inv2 (fun n fr h' => h' = h ∧ ∃ k : Nat, k ≤ l.length ∧ n = l.length - k ∧ (l.take k).all wR = true ∧ fr = [(0, some (.s v)), (4, some (.s (.int .i64 (l.take k).sum))), (7, some (.s v)), (8, some (.s (.int .i64 l.length))), (9, some (.s (.int .i64 k)))]) ?_ _ _ _ ⟨rfl, 0, Nat.zero_le _, rfl, by simp, by simp⟩
  rintro I hI n fr h' ⟨rfl, k, hk, rfl, ha, rfl⟩
  refine ⟨by simp [keepF, fget], ?_⟩
  by_cases hlt : k < l.length
  · obtain ⟨i, p, o, ob, vs, rfl, q2, q3, q4⟩ := r.int hlt
    have w3 : IntKind.i64.wrap ((k : Int) + 1) = ((k + 1 : Nat) : Int) := wrap_small (by omega) (by omega)
    have b := sum_bound ha
    have hlk : (l.take k).length ≤ k := by simp; omega
    cases hw : wR l[k] with
    | true =>
      have hw' := of_decide_eq_true hw
      have c1 : ¬ l[k] < 0 := by omega
      have c2 : ¬ l[k] > 1000000 := by omega
      have c2' : ¬ 1000000 < l[k] := by omega
      have e := sum_take_succ l hlt
      have w1 : IntKind.i64.wrap ((l.take k).sum + l[k]) = (l.take (k + 1)).sum := by rw [e]; exact wrap_small (by omega) (by omega)
      simp [wpk_skip, wpk_seq, k_cond, wpk_block, wpk_exit, wpk_ret, wpk_loop, k_ops, k_draw0, t_nil, t_cons, KT_eq, KD_eq, wpo_nil, k_cons, k_step, mt_some, mtk_some, KO_eq, KP_eq, K_normal, K_ret, K_exit, KB_normal, KB_ret, KB_exit, KL_normal, KL_ret, KL_exit, k_ret, k_normal, stepE, isCall, calleeE, opE, wantE, odE, odS, odL, odSL, fget, fput, initE, keepF, List.map_cons, List.map_nil, binE, intOp, strOp, shOp, unE, eqpE, eqnE, neqB, ressE, resE, packL, packE, flat1, fcells, fillE, setL, cellsOf_bind, cellsO_own, cellsO_ro, lenE_sl, lenE_nils, lenE_sl0, bound, rep, minE, maxE, List.getElem?_cons_zero, List.getElem?_cons_succ, get_lt, set_lt, get_len, get_len_add, set_len, set_len_add, List.append_assoc, List.cons_append, List.nil_append, -getElem?_pos, l16_0_2, l16_0_1, l16_0, hlt, q2, q3, q4, c1, c2, c2', w1, w3]
      exact ⟨_, by omega, hI _ _ _ ⟨rfl, k + 1, hlt, rfl, by rw [all_take_succ hlt, ha, hw]; rfl, rfl⟩⟩
    | false =>
      have hr : rightF l = (0, false) := by unfold rightF; rw [if_neg]; rw [all_bad hlt hw]; simp
      have hw' := of_decide_eq_false hw
      rw [hr] at hΨ
      by_cases c1 : l[k] < 0
      · simp [wpk_skip, wpk_seq, k_cond, wpk_block, wpk_exit, wpk_ret, wpk_loop, k_ops, k_draw0, t_nil, t_cons, KT_eq, KD_eq, wpo_nil, k_cons, k_step, mt_some, mtk_some, KO_eq, KP_eq, K_normal, K_ret, K_exit, KB_normal, KB_ret, KB_exit, KL_normal, KL_ret, KL_exit, k_ret, k_normal, stepE, isCall, calleeE, opE, wantE, odE, odS, odL, odSL, fget, fput, initE, keepF, List.map_cons, List.map_nil, binE, intOp, strOp, shOp, unE, eqpE, eqnE, neqB, ressE, resE, packL, packE, flat1, fcells, fillE, setL, cellsOf_bind, cellsO_own, cellsO_ro, lenE_sl, lenE_nils, lenE_sl0, bound, rep, minE, maxE, List.getElem?_cons_zero, List.getElem?_cons_succ, get_lt, set_lt, get_len, get_len_add, set_len, set_len_add, List.append_assoc, List.cons_append, List.nil_append, -getElem?_pos, l16_0_2, l16_0_1, l16_0, hlt, q2, q3, q4, c1]
        exact hΨ _ _ ⟨rfl, rfl⟩
      · have c2 : l[k] > 1000000 := by omega
        simp [wpk_skip, wpk_seq, k_cond, wpk_block, wpk_exit, wpk_ret, wpk_loop, k_ops, k_draw0, t_nil, t_cons, KT_eq, KD_eq, wpo_nil, k_cons, k_step, mt_some, mtk_some, KO_eq, KP_eq, K_normal, K_ret, K_exit, KB_normal, KB_ret, KB_exit, KL_normal, KL_ret, KL_exit, k_ret, k_normal, stepE, isCall, calleeE, opE, wantE, odE, odS, odL, odSL, fget, fput, initE, keepF, List.map_cons, List.map_nil, binE, intOp, strOp, shOp, unE, eqpE, eqnE, neqB, ressE, resE, packL, packE, flat1, fcells, fillE, setL, cellsOf_bind, cellsO_own, cellsO_ro, lenE_sl, lenE_nils, lenE_sl0, bound, rep, minE, maxE, List.getElem?_cons_zero, List.getElem?_cons_succ, get_lt, set_lt, get_len, get_len_add, set_len, set_len_add, List.append_assoc, List.cons_append, List.nil_append, -getElem?_pos, l16_0_2, l16_0_1, l16_0, hlt, q2, q3, q4, c1, c2]
        exact hΨ _ _ ⟨rfl, rfl⟩
  · obtain rfl : k = l.length := by omega
    rw [List.take_length] at ha
    have hr : rightF l = (l.sum, decide (0 < l.sum) && decide (l.length ≤ 16)) := by unfold rightF; rw [if_pos ha]
    rw [List.take_length]
    rw [hr] at hΨ
    have c16 : decide ((l.length : Int) ≤ 16) = decide (l.length ≤ 16) := by
      by_cases c : l.length ≤ 16
      · rw [decide_eq_true c, decide_eq_true (by omega)]
      · rw [decide_eq_false c, decide_eq_false (by omega)]
    by_cases c : 0 < l.sum
    · simp [wpk_skip, wpk_seq, k_cond, wpk_block, wpk_exit, wpk_ret, wpk_loop, k_ops, k_draw0, t_nil, t_cons, KT_eq, KD_eq, wpo_nil, k_cons, k_step, mt_some, mtk_some, KO_eq, KP_eq, K_normal, K_ret, K_exit, KB_normal, KB_ret, KB_exit, KL_normal, KL_ret, KL_exit, k_ret, k_normal, stepE, isCall, calleeE, opE, wantE, odE, odS, odL, odSL, fget, fput, initE, keepF, List.map_cons, List.map_nil, binE, intOp, strOp, shOp, unE, eqpE, eqnE, neqB, ressE, resE, packL, packE, flat1, fcells, fillE, setL, cellsOf_bind, cellsO_own, cellsO_ro, lenE_sl, lenE_nils, lenE_sl0, bound, rep, minE, maxE, List.getElem?_cons_zero, List.getElem?_cons_succ, get_lt, set_lt, get_len, get_len_add, set_len, set_len_add, List.append_assoc, List.cons_append, List.nil_append, -getElem?_pos, l16_0_2, l16_0_1, l16_0, hlt, rl, c, c16, s16_3]
      exact hΨ _ _ ⟨by simp [c], rfl⟩
    · simp [wpk_skip, wpk_seq, k_cond, wpk_block, wpk_exit, wpk_ret, wpk_loop, k_ops, k_draw0, t_nil, t_cons, KT_eq, KD_eq, wpo_nil, k_cons, k_step, mt_some, mtk_some, KO_eq, KP_eq, K_normal, K_ret, K_exit, KB_normal, KB_ret, KB_exit, KL_normal, KL_ret, KL_exit, k_ret, k_normal, stepE, isCall, calleeE, opE, wantE, odE, odS, odL, odSL, fget, fput, initE, keepF, List.map_cons, List.map_nil, binE, intOp, strOp, shOp, unE, eqpE, eqnE, neqB, ressE, resE, packL, packE, flat1, fcells, fillE, setL, cellsOf_bind, cellsO_own, cellsO_ro, lenE_sl, lenE_nils, lenE_sl0, bound, rep, minE, maxE, List.getElem?_cons_zero, List.getElem?_cons_succ, get_lt, set_lt, get_len, get_len_add, set_len, set_len_add, List.append_assoc, List.cons_append, List.nil_append, -getElem?_pos, l16_0_2, l16_0_1, l16_0, hlt, rl, c, s16_3]
      exact hΨ _ _ ⟨by simp [c], rfl⟩
end Go.Proofs.Ytejoijjmlglhfaa.Ev.CS
