/- The document's parts of an amount on the small machine. -/
import Derived.Test.YtejoijjmlglhfaaSplitSums
import Derived.Test.YtejoijjmlglhfaaSpM
set_option linter.unusedSimpArgs false
set_option linter.unusedVariables false
namespace Go.Proofs.Ytejoijjmlglhfaa.Ev.CS
open Go

theorem rmoney_ok (p : Int) (h : LH) : callX C 19 [.s (.int .i64 p)] h = some (.s (.bool (decide (-100000000000 ≤ p ∧ p ≤ 100000000000))), h) := by
  apply callX_wp
  refine WPc.intro (e := e19) rfl (by simp [e19]) ?_
  show WPk C b19 _ _ (KR [.tmp 2] _)
  by_cases h0 : p ≥ -100000000000
  · simp [wpk_skip, wpk_seq, k_cond, wpk_block, wpk_exit, wpk_ret, wpk_loop, k_ops, k_draw0, t_nil, t_cons, KT_eq, KD_eq, wpo_nil, k_cons, k_step, mt_some, mtk_some, KO_eq, KP_eq, K_normal, K_ret, K_exit, KB_normal, KB_ret, KB_exit, KL_normal, KL_ret, KL_exit, k_ret, k_normal, stepE, isCall, calleeE, opE, wantE, odE, odS, odL, odSL, fget, fput, initE, keepF, List.map_cons, List.map_nil, binE, intOp, strOp, shOp, unE, eqpE, eqnE, neqB, ressE, resE, packL, packE, flat1, fcells, fillE, setL, cellsOf_bind, cellsO_own, cellsO_ro, lenE_sl, lenE_nils, lenE_sl0, bound, rep, minE, maxE, List.getElem?_cons_zero, List.getElem?_cons_succ, get_lt, set_lt, get_len, get_len_add, set_len, set_len_add, List.append_assoc, List.cons_append, List.nil_append, -getElem?_pos, b19, s19_1, h0]
  · simp [wpk_skip, wpk_seq, k_cond, wpk_block, wpk_exit, wpk_ret, wpk_loop, k_ops, k_draw0, t_nil, t_cons, KT_eq, KD_eq, wpo_nil, k_cons, k_step, mt_some, mtk_some, KO_eq, KP_eq, K_normal, K_ret, K_exit, KB_normal, KB_ret, KB_exit, KL_normal, KL_ret, KL_exit, k_ret, k_normal, stepE, isCall, calleeE, opE, wantE, odE, odS, odL, odSL, fget, fput, initE, keepF, List.map_cons, List.map_nil, binE, intOp, strOp, shOp, unE, eqpE, eqnE, neqB, ressE, resE, packL, packE, flat1, fcells, fillE, setL, cellsOf_bind, cellsO_own, cellsO_ro, lenE_sl, lenE_nils, lenE_sl0, bound, rep, minE, maxE, List.getElem?_cons_zero, List.getElem?_cons_succ, get_lt, set_lt, get_len, get_len_add, set_len, set_len_add, List.append_assoc, List.cons_append, List.nil_append, -getElem?_pos, b19, s19_1, h0]


/-- The first of the greatest, as a search from the left finds it. -/
theorem max_first {l : List Int} {k : Nat} (hk : k < l.length) (h1 : ∀ j, j < l.length → l.getD j 0 ≤ l.getD k 0) (h2 : ∀ j, j < k → l.getD j 0 < l.getD k 0) : idx (maxL l) l = k := by
  have hne : l ≠ [] := fun e => by subst e; simp at hk
  have e : l.getD k 0 = maxL l := by
    have a := le_maxL (l := l) _ (List.getElem_mem hk)
    obtain ⟨j, hj, ej⟩ := List.mem_iff_getElem.1 (maxL_mem hne)
    have b := h1 j hj
    rw [getD_at hj, ej, getD_at hk] at b
    rw [getD_at hk]
    omega
  exact idx_getD hk (fun i hi => by have := h2 i hi; omega) e

set_option maxRecDepth 20000 in
set_option maxHeartbeats 8000000 in
theorem ref_step {h : LH} {v : SV} {w : List Int} (r : Rd h 3 1 encI v w) (hl : w.length < 1000000) (n : Int)
    (rec : n < 0 → ∀ h2, Gr h h2 → WPc C 15 [.s (.int .i64 (-n)), .s v] h2 fun u h' => Gr h2 h' ∧ ∃ a, u = .tup [.s a, .s (.bool (splitOk (-n) w))] ∧ Ow h2.length h' 3 encI a (splitF (-n) w)) :
    WPc C 15 [.s (.int .i64 n), .s v] h fun u h' => Gr h h' ∧ ∃ a, u = .tup [.s a, .s (.bool (splitOk n w))] ∧ Ow h.length h' 3 encI a (splitF n w) := by
  refine WPc.post fun Ψ hΨ => ?_
  refine WPc.intro (e := e15) rfl (by simp [e15]) ?_
  show WPk C b15 _ _ (KR [.tmp 4, .tmp 5] _)
  have rl := r.len
  simp [wpk_skip, wpk_seq, k_cond, wpk_block, wpk_exit, wpk_ret, wpk_loop, k_ops, k_draw0, t_nil, t_cons, KT_eq, KD_eq, wpo_nil, k_cons, k_step, mt_some, mtk_some, KO_eq, KP_eq, K_normal, K_ret, K_exit, KB_normal, KB_ret, KB_exit, KL_normal, KL_ret, KL_exit, k_ret, k_normal, stepE, isCall, calleeE, opE, wantE, odE, odS, odL, odSL, fget, fput, initE, keepF, List.map_cons, List.map_nil, binE, intOp, strOp, shOp, unE, eqpE, eqnE, neqB, ressE, resE, packL, packE, flat1, fcells, fillE, setL, cellsOf_bind, cellsO_own, cellsO_ro, lenE_sl, lenE_nils, lenE_sl0, bound, rep, minE, maxE, List.getElem?_cons_zero, List.getElem?_cons_succ, get_lt, set_lt, get_len, get_len_add, set_len, set_len_add, List.append_assoc, List.cons_append, List.nil_append, -getElem?_pos, b15, s15_1, s15_2, rl]
  refine WPl.post (fun x fr' h' => h' = h ∧ ((w.all wR = true ∧ x = .exit 0 ∧ fr' = [(0, some (.s (.int .i64 n))), (1, some (.s v)), (6, some (.s (.int .i64 w.sum)))]) ∨ (w.all wR = false ∧ x = .ret ∧ fr' = [(4, some (.s .nils)), (5, some (.s (.bool false)))]))) (fun Φ hΦ => ?_) ?_
  · refine WPl.inv2 (fun m fr h' => h' = h ∧ ∃ k : Nat, k ≤ w.length ∧ m = w.length - k ∧ (w.take k).all wR = true ∧ fr = [(0, some (.s (.int .i64 n))), (1, some (.s v)), (6, some (.s (.int .i64 (w.take k).sum))), (19, some (.s v)), (20, some (.s (.int .i64 w.length))), (21, some (.s (.int .i64 k)))]) ?_ _ _ _ ⟨rfl, 0, Nat.zero_le _, rfl, by simp, by simp⟩
    rintro I hI m fr h' ⟨rfl, k, hk, rfl, ha, rfl⟩
    refine ⟨by simp [keepF, fget], ?_⟩
    by_cases hlt : k < w.length
    · obtain ⟨i, p, o, ob, vs, rfl, q2, q3, q4⟩ := r.int hlt
      have w3 : IntKind.i64.wrap ((k : Int) + 1) = ((k + 1 : Nat) : Int) := wrap_small (by omega) (by omega)
      have b := sum_bound ha
      have hlk : (w.take k).length ≤ k := by simp; omega
      cases hw : wR w[k] with
      | true =>
        have hw' := of_decide_eq_true hw
        have c1 : ¬ w[k] < 0 := by omega
        have c2 : ¬ w[k] > 1000000 := by omega
        have c2' : ¬ 1000000 < w[k] := by omega
        have e := sum_take_succ w hlt
        have w1 : IntKind.i64.wrap ((w.take k).sum + w[k]) = (w.take (k + 1)).sum := by rw [e]; exact wrap_small (by omega) (by omega)
        simp [wpk_skip, wpk_seq, k_cond, wpk_block, wpk_exit, wpk_ret, wpk_loop, k_ops, k_draw0, t_nil, t_cons, KT_eq, KD_eq, wpo_nil, k_cons, k_step, mt_some, mtk_some, KO_eq, KP_eq, K_normal, K_ret, K_exit, KB_normal, KB_ret, KB_exit, KL_normal, KL_ret, KL_exit, k_ret, k_normal, stepE, isCall, calleeE, opE, wantE, odE, odS, odL, odSL, fget, fput, initE, keepF, List.map_cons, List.map_nil, binE, intOp, strOp, shOp, unE, eqpE, eqnE, neqB, ressE, resE, packL, packE, flat1, fcells, fillE, setL, cellsOf_bind, cellsO_own, cellsO_ro, lenE_sl, lenE_nils, lenE_sl0, bound, rep, minE, maxE, List.getElem?_cons_zero, List.getElem?_cons_succ, get_lt, set_lt, get_len, get_len_add, set_len, set_len_add, List.append_assoc, List.cons_append, List.nil_append, -getElem?_pos, l15_0_2, l15_0_1, l15_0, hlt, q2, q3, q4, c1, c2, c2', w1, w3]
        exact ⟨_, by omega, hI _ _ _ ⟨rfl, k + 1, hlt, rfl, by rw [all_take_succ hlt, ha, hw]; rfl, rfl⟩⟩
      | false =>
        have hw' := of_decide_eq_false hw
        have hbad := all_bad hlt hw
        by_cases c1 : w[k] < 0
        · simp [wpk_skip, wpk_seq, k_cond, wpk_block, wpk_exit, wpk_ret, wpk_loop, k_ops, k_draw0, t_nil, t_cons, KT_eq, KD_eq, wpo_nil, k_cons, k_step, mt_some, mtk_some, KO_eq, KP_eq, K_normal, K_ret, K_exit, KB_normal, KB_ret, KB_exit, KL_normal, KL_ret, KL_exit, k_ret, k_normal, stepE, isCall, calleeE, opE, wantE, odE, odS, odL, odSL, fget, fput, initE, keepF, List.map_cons, List.map_nil, binE, intOp, strOp, shOp, unE, eqpE, eqnE, neqB, ressE, resE, packL, packE, flat1, fcells, fillE, setL, cellsOf_bind, cellsO_own, cellsO_ro, lenE_sl, lenE_nils, lenE_sl0, bound, rep, minE, maxE, List.getElem?_cons_zero, List.getElem?_cons_succ, get_lt, set_lt, get_len, get_len_add, set_len, set_len_add, List.append_assoc, List.cons_append, List.nil_append, -getElem?_pos, l15_0_2, l15_0_1, l15_0, hlt, q2, q3, q4, c1]
          exact hΦ _ _ _ ⟨rfl, .inr ⟨hbad, rfl, rfl⟩⟩
        · have c2 : w[k] > 1000000 := by omega
          simp [wpk_skip, wpk_seq, k_cond, wpk_block, wpk_exit, wpk_ret, wpk_loop, k_ops, k_draw0, t_nil, t_cons, KT_eq, KD_eq, wpo_nil, k_cons, k_step, mt_some, mtk_some, KO_eq, KP_eq, K_normal, K_ret, K_exit, KB_normal, KB_ret, KB_exit, KL_normal, KL_ret, KL_exit, k_ret, k_normal, stepE, isCall, calleeE, opE, wantE, odE, odS, odL, odSL, fget, fput, initE, keepF, List.map_cons, List.map_nil, binE, intOp, strOp, shOp, unE, eqpE, eqnE, neqB, ressE, resE, packL, packE, flat1, fcells, fillE, setL, cellsOf_bind, cellsO_own, cellsO_ro, lenE_sl, lenE_nils, lenE_sl0, bound, rep, minE, maxE, List.getElem?_cons_zero, List.getElem?_cons_succ, get_lt, set_lt, get_len, get_len_add, set_len, set_len_add, List.append_assoc, List.cons_append, List.nil_append, -getElem?_pos, l15_0_2, l15_0_1, l15_0, hlt, q2, q3, q4, c1, c2]
          exact hΦ _ _ _ ⟨rfl, .inr ⟨hbad, rfl, rfl⟩⟩
    · obtain rfl : k = w.length := by omega
      rw [List.take_length] at ha ⊢
      simp [wpk_skip, wpk_seq, k_cond, wpk_block, wpk_exit, wpk_ret, wpk_loop, k_ops, k_draw0, t_nil, t_cons, KT_eq, KD_eq, wpo_nil, k_cons, k_step, mt_some, mtk_some, KO_eq, KP_eq, K_normal, K_ret, K_exit, KB_normal, KB_ret, KB_exit, KL_normal, KL_ret, KL_exit, k_ret, k_normal, stepE, isCall, calleeE, opE, wantE, odE, odS, odL, odSL, fget, fput, initE, keepF, List.map_cons, List.map_nil, binE, intOp, strOp, shOp, unE, eqpE, eqnE, neqB, ressE, resE, packL, packE, flat1, fcells, fillE, setL, cellsOf_bind, cellsO_own, cellsO_ro, lenE_sl, lenE_nils, lenE_sl0, bound, rep, minE, maxE, List.getElem?_cons_zero, List.getElem?_cons_succ, get_lt, set_lt, get_len, get_len_add, set_len, set_len_add, List.append_assoc, List.cons_append, List.nil_append, -getElem?_pos, l15_0_2, l15_0_1, l15_0, hlt]
      exact hΦ _ _ _ ⟨rfl, .inl ⟨ha, rfl, rfl⟩⟩
  · rintro x fr' h' ⟨rfl, ⟨ha, rfl, rfl⟩ | ⟨ha, rfl, rfl⟩⟩
    · have hr : rightF w = (w.sum, decide (0 < w.sum) && decide (w.length ≤ 16)) := by unfold rightF; rw [if_pos ha]
      have c2 := fun h => rmoney_ok n h
      have bs := sum_bound ha
      cases hk : splitOk n w with
      | false =>
        have hF : splitF n w = [] := by unfold splitF; rw [hk]; rfl
        rw [hF, hk] at hΨ
        unfold splitOk at hk
        rw [hr] at hk
        by_cases hm : -100000000000 ≤ n ∧ n ≤ 100000000000
        · rw [decide_eq_true hm] at c2 hk
          rw [Bool.and_true] at hk
          by_cases l1 : w.length < 1
          · have l1' : (w.length : Int) < 1 := by omega
            simp [wpk_skip, wpk_seq, k_cond, wpk_block, wpk_exit, wpk_ret, wpk_loop, k_ops, k_draw0, t_nil, t_cons, KT_eq, KD_eq, wpo_nil, k_cons, k_step, mt_some, mtk_some, KO_eq, KP_eq, K_normal, K_ret, K_exit, KB_normal, KB_ret, KB_exit, KL_normal, KL_ret, KL_exit, k_ret, k_normal, stepE, isCall, calleeE, opE, wantE, odE, odS, odL, odSL, fget, fput, initE, keepF, List.map_cons, List.map_nil, binE, intOp, strOp, shOp, unE, eqpE, eqnE, neqB, ressE, resE, packL, packE, flat1, fcells, fillE, setL, cellsOf_bind, cellsO_own, cellsO_ro, lenE_sl, lenE_nils, lenE_sl0, bound, rep, minE, maxE, List.getElem?_cons_zero, List.getElem?_cons_succ, get_lt, set_lt, get_len, get_len_add, set_len, set_len_add, List.append_assoc, List.cons_append, List.nil_append, -getElem?_pos, s15_3, c2, rl, l1, l1']
            exact hΨ _ _ ⟨Gr.refl _, _, rfl, Ow.nil _ _⟩
          · have l1' : ¬ (w.length : Int) < 1 := by omega
            by_cases l2 : w.length > 16
            · have l2' : (w.length : Int) > 16 := by omega
              have l2'' : (16 : Int) < (w.length : Int) := by omega
              simp [wpk_skip, wpk_seq, k_cond, wpk_block, wpk_exit, wpk_ret, wpk_loop, k_ops, k_draw0, t_nil, t_cons, KT_eq, KD_eq, wpo_nil, k_cons, k_step, mt_some, mtk_some, KO_eq, KP_eq, K_normal, K_ret, K_exit, KB_normal, KB_ret, KB_exit, KL_normal, KL_ret, KL_exit, k_ret, k_normal, stepE, isCall, calleeE, opE, wantE, odE, odS, odL, odSL, fget, fput, initE, keepF, List.map_cons, List.map_nil, binE, intOp, strOp, shOp, unE, eqpE, eqnE, neqB, ressE, resE, packL, packE, flat1, fcells, fillE, setL, cellsOf_bind, cellsO_own, cellsO_ro, lenE_sl, lenE_nils, lenE_sl0, bound, rep, minE, maxE, List.getElem?_cons_zero, List.getElem?_cons_succ, get_lt, set_lt, get_len, get_len_add, set_len, set_len_add, List.append_assoc, List.cons_append, List.nil_append, -getElem?_pos, s15_3, c2, rl, l1, l1', l2, l2', l2'']
              exact hΨ _ _ ⟨Gr.refl _, _, rfl, Ow.nil _ _⟩
            · have l2' : ¬ (w.length : Int) > 16 := by omega
              have l2'' : ¬ (16 : Int) < (w.length : Int) := by omega
              have l3 : w.sum = 0 := by
                rw [decide_eq_true (show w.length ≤ 16 by omega), Bool.and_true] at hk
                have := of_decide_eq_false hk
                omega
              have l3' : (w.sum == 0) = true := by simp [l3]
              simp [wpk_skip, wpk_seq, k_cond, wpk_block, wpk_exit, wpk_ret, wpk_loop, k_ops, k_draw0, t_nil, t_cons, KT_eq, KD_eq, wpo_nil, k_cons, k_step, mt_some, mtk_some, KO_eq, KP_eq, K_normal, K_ret, K_exit, KB_normal, KB_ret, KB_exit, KL_normal, KL_ret, KL_exit, k_ret, k_normal, stepE, isCall, calleeE, opE, wantE, odE, odS, odL, odSL, fget, fput, initE, keepF, List.map_cons, List.map_nil, binE, intOp, strOp, shOp, unE, eqpE, eqnE, neqB, ressE, resE, packL, packE, flat1, fcells, fillE, setL, cellsOf_bind, cellsO_own, cellsO_ro, lenE_sl, lenE_nils, lenE_sl0, bound, rep, minE, maxE, List.getElem?_cons_zero, List.getElem?_cons_succ, get_lt, set_lt, get_len, get_len_add, set_len, set_len_add, List.append_assoc, List.cons_append, List.nil_append, -getElem?_pos, s15_3, c2, rl, l1, l1', l2, l2', l2'', l3, l3']
              exact hΨ _ _ ⟨Gr.refl _, _, rfl, Ow.nil _ _⟩
        · rw [decide_eq_false hm] at c2
          simp [wpk_skip, wpk_seq, k_cond, wpk_block, wpk_exit, wpk_ret, wpk_loop, k_ops, k_draw0, t_nil, t_cons, KT_eq, KD_eq, wpo_nil, k_cons, k_step, mt_some, mtk_some, KO_eq, KP_eq, K_normal, K_ret, K_exit, KB_normal, KB_ret, KB_exit, KL_normal, KL_ret, KL_exit, k_ret, k_normal, stepE, isCall, calleeE, opE, wantE, odE, odS, odL, odSL, fget, fput, initE, keepF, List.map_cons, List.map_nil, binE, intOp, strOp, shOp, unE, eqpE, eqnE, neqB, ressE, resE, packL, packE, flat1, fcells, fillE, setL, cellsOf_bind, cellsO_own, cellsO_ro, lenE_sl, lenE_nils, lenE_sl0, bound, rep, minE, maxE, List.getElem?_cons_zero, List.getElem?_cons_succ, get_lt, set_lt, get_len, get_len_add, set_len, set_len_add, List.append_assoc, List.cons_append, List.nil_append, -getElem?_pos, s15_3, c2, rl]
          exact hΨ _ _ ⟨Gr.refl _, _, rfl, Ow.nil _ _⟩
      | true =>
        have hF : splitF n w = splitP n w := by unfold splitF; rw [hk]; rfl
        rw [hF, hk] at hΨ
        have hk0 := hk
        unfold splitOk at hk
        simp only [Bool.and_eq_true] at hk
        obtain ⟨_, hs, h16, h0, e1⟩ := right_true hk.1
        rw [hk.2] at c2
        have hn := of_decide_eq_true hk.2
        have l1 : ¬ w.length < 1 := by omega
        have l1' : ¬ (w.length : Int) < 1 := by omega
        have l2 : ¬ w.length > 16 := by omega
        have l2' : ¬ (w.length : Int) > 16 := by omega
        have l2'' : ¬ (16 : Int) < (w.length : Int) := by omega
        have l3' : (w.sum == 0) = false := by
          have : w.sum ≠ 0 := by omega
          simpa using this
        have w0 : IntKind.i64.wrap (-n) = -n := wrap_small (by omega) (by omega)
        by_cases c : n < 0
        · have okm : splitOk (-n) w = true := by
            unfold splitOk
            rw [hk.1, decide_eq_true (by omega)]; rfl
          have hFm : splitF (-n) w = shareF (-n) w.sum w := by unfold splitF splitP; rw [okm, if_pos rfl, if_neg (by omega)]
          have eP : splitP n w = (shareF (-n) w.sum w).map (fun x => -x) := by unfold splitP; rw [if_pos c]
          rw [eP] at hΨ
          have hrec := rec c h' (Gr.refl _)
          rw [okm, hFm] at hrec
          simp [wpk_skip, wpk_seq, k_cond, wpk_block, wpk_exit, wpk_ret, wpk_loop, k_ops, k_draw0, t_nil, t_cons, KT_eq, KD_eq, wpo_nil, k_cons, k_step, mt_some, mtk_some, KO_eq, KP_eq, K_normal, K_ret, K_exit, KB_normal, KB_ret, KB_exit, KL_normal, KL_ret, KL_exit, k_ret, k_normal, stepE, isCall, calleeE, opE, wantE, odE, odS, odL, odSL, fget, fput, initE, keepF, List.map_cons, List.map_nil, binE, intOp, strOp, shOp, unE, eqpE, eqnE, neqB, ressE, resE, packL, packE, flat1, fcells, fillE, setL, cellsOf_bind, cellsO_own, cellsO_ro, lenE_sl, lenE_nils, lenE_sl0, bound, rep, minE, maxE, List.getElem?_cons_zero, List.getElem?_cons_succ, get_lt, set_lt, get_len, get_len_add, set_len, set_len_add, List.append_assoc, List.cons_append, List.nil_append, -getElem?_pos, s15_3, s15_4, c2, rl, l1, l1', l2, l2', l2'', l3', c, w0]
          refine WPc.go hrec ?_
          rintro _ h1 ⟨g1, a, rfl, ow⟩
          have sb := share_bound (n := -n) (s := w.sum) (w := w) (by omega) ha hs
          have sl := shareF_len (-n) w.sum w
          generalize shareF (-n) w.sum w = L at *
          simp [wpk_skip, wpk_seq, k_cond, wpk_block, wpk_exit, wpk_ret, wpk_loop, k_ops, k_draw0, t_nil, t_cons, KT_eq, KD_eq, wpo_nil, k_cons, k_step, mt_some, mtk_some, KO_eq, KP_eq, K_normal, K_ret, K_exit, KB_normal, KB_ret, KB_exit, KL_normal, KL_ret, KL_exit, k_ret, k_normal, stepE, isCall, calleeE, opE, wantE, odE, odS, odL, odSL, fget, fput, initE, keepF, List.map_cons, List.map_nil, binE, intOp, strOp, shOp, unE, eqpE, eqnE, neqB, ressE, resE, packL, packE, flat1, fcells, fillE, setL, cellsOf_bind, cellsO_own, cellsO_ro, lenE_sl, lenE_nils, lenE_sl0, bound, rep, minE, maxE, List.getElem?_cons_zero, List.getElem?_cons_succ, get_lt, set_lt, get_len, get_len_add, set_len, set_len_add, List.append_assoc, List.cons_append, List.nil_append, -getElem?_pos, ow.len]
          refine WPl.post (fun x fr' h'' => x = .exit 2 ∧ fr' = [(9, some (.s a))] ∧ Gr h' h'' ∧ Ow h'.length h'' 3 encI a (L.map (fun x => -x))) (fun Φ hΦ => ?_) ?_
          · refine WPl.inv2 (fun m fr h'' => ∃ (k : Nat) (S : List Int), k ≤ L.length ∧ m = L.length - k ∧ Gr h' h'' ∧ Ow h'.length h'' 3 encI a S ∧ S.length = L.length ∧ S.take k = (L.take k).map (fun x => -x) ∧ S.drop k = L.drop k ∧
              fr = [(9, some (.s a)), (62, some (.s (.int .i64 L.length))), (63, some (.s (.int .i64 k)))]) ?_ _ _ _ ⟨0, L, Nat.zero_le _, rfl, g1, ow, rfl, rfl, rfl, rfl⟩
            rintro I hI m fr h2 ⟨k, S, hk', rfl, gr, oS, hlS, tS, dS, rfl⟩
            refine ⟨by simp [keepF, fget], ?_⟩
            by_cases hlt : k < L.length
            · have kS : k < S.length := by omega
              obtain ⟨j, i1, rfl, i2, i3⟩ := oS.int_at kS
              have i5 := lt_of_some i2
              have hrow : S[k] = L[k] := by
                have e1 := List.drop_eq_getElem_cons kS
                have e2 := List.drop_eq_getElem_cons hlt
                rw [dS, e2] at e1
                exact ((List.cons.inj e1).1).symm
              have hget : (S.map (SV.int .i64))[k]? = some (.int .i64 S[k]) := by simp [kS]
              have hx := sb _ (List.getElem_mem hlt)
              rw [← hrow] at hx
              have w2 : IntKind.i64.wrap (-S[k]) = -S[k] := wrap_small (by omega) (by omega)
              have w3 : IntKind.i64.wrap ((k : Int) + 1) = ((k + 1 : Nat) : Int) := wrap_small (by omega) (by omega)
              have t2 : k + 1 ≤ S.length := kS
              have g1' : S[k]? = some S[k] := List.getElem?_eq_getElem kS
              simp [wpk_skip, wpk_seq, k_cond, wpk_block, wpk_exit, wpk_ret, wpk_loop, k_ops, k_draw0, t_nil, t_cons, KT_eq, KD_eq, wpo_nil, k_cons, k_step, mt_some, mtk_some, KO_eq, KP_eq, K_normal, K_ret, K_exit, KB_normal, KB_ret, KB_exit, KL_normal, KL_ret, KL_exit, k_ret, k_normal, stepE, isCall, calleeE, opE, wantE, odE, odS, odL, odSL, fget, fput, initE, keepF, List.map_cons, List.map_nil, binE, intOp, strOp, shOp, unE, eqpE, eqnE, neqB, ressE, resE, packL, packE, flat1, fcells, fillE, setL, cellsOf_bind, cellsO_own, cellsO_ro, lenE_sl, lenE_nils, lenE_sl0, bound, rep, minE, maxE, List.getElem?_cons_zero, List.getElem?_cons_succ, get_lt, set_lt, get_len, get_len_add, set_len, set_len_add, List.append_assoc, List.cons_append, List.nil_append, -getElem?_pos, l15_1_2, l15_1_1, l15_1, hlt, kS, i2, i5, hget, g1', w2, w3, t2]
              refine ⟨_, by omega, hI _ _ _ ⟨k + 1, S.set k (-S[k]), hlt, rfl, gr.set _ i1, i3 _, by simpa using hlS, ?_, ?_, rfl⟩⟩
              · rw [List.take_succ_eq_append_getElem (by simpa using kS), List.take_set_of_le (by omega), tS, List.take_succ_eq_append_getElem hlt, List.map_append]; simp only [List.map_cons, List.map_nil, List.getElem_set_self, hrow]
              · rw [List.drop_set_of_lt (by omega)]
                have := congrArg (List.drop 1) dS
                simpa using this
            · obtain rfl : k = L.length := by omega
              rw [List.take_of_length_le (by omega), List.take_length] at tS
              subst tS
              simp [wpk_skip, wpk_seq, k_cond, wpk_block, wpk_exit, wpk_ret, wpk_loop, k_ops, k_draw0, t_nil, t_cons, KT_eq, KD_eq, wpo_nil, k_cons, k_step, mt_some, mtk_some, KO_eq, KP_eq, K_normal, K_ret, K_exit, KB_normal, KB_ret, KB_exit, KL_normal, KL_ret, KL_exit, k_ret, k_normal, stepE, isCall, calleeE, opE, wantE, odE, odS, odL, odSL, fget, fput, initE, keepF, List.map_cons, List.map_nil, binE, intOp, strOp, shOp, unE, eqpE, eqnE, neqB, ressE, resE, packL, packE, flat1, fcells, fillE, setL, cellsOf_bind, cellsO_own, cellsO_ro, lenE_sl, lenE_nils, lenE_sl0, bound, rep, minE, maxE, List.getElem?_cons_zero, List.getElem?_cons_succ, get_lt, set_lt, get_len, get_len_add, set_len, set_len_add, List.append_assoc, List.cons_append, List.nil_append, -getElem?_pos, l15_1_2, l15_1_1, l15_1, hlt]
              exact hΦ _ _ _ ⟨rfl, rfl, gr, oS⟩
          · rintro x fr' h2 ⟨rfl, rfl, g2, o2⟩
            simp [wpk_skip, wpk_seq, k_cond, wpk_block, wpk_exit, wpk_ret, wpk_loop, k_ops, k_draw0, t_nil, t_cons, KT_eq, KD_eq, wpo_nil, k_cons, k_step, mt_some, mtk_some, KO_eq, KP_eq, K_normal, K_ret, K_exit, KB_normal, KB_ret, KB_exit, KL_normal, KL_ret, KL_exit, k_ret, k_normal, stepE, isCall, calleeE, opE, wantE, odE, odS, odL, odSL, fget, fput, initE, keepF, List.map_cons, List.map_nil, binE, intOp, strOp, shOp, unE, eqpE, eqnE, neqB, ressE, resE, packL, packE, flat1, fcells, fillE, setL, cellsOf_bind, cellsO_own, cellsO_ro, lenE_sl, lenE_nils, lenE_sl0, bound, rep, minE, maxE, List.getElem?_cons_zero, List.getElem?_cons_succ, get_lt, set_lt, get_len, get_len_add, set_len, set_len_add, List.append_assoc, List.cons_append, List.nil_append, -getElem?_pos]
            exact hΨ _ _ ⟨g2, a, rfl, o2⟩
        · have eP : splitP n w = shareF n w.sum w := by unfold splitP; rw [if_neg c]
          rw [eP] at hΨ
          have qb := quo_bound (n := n) (by omega) hs ha
          have ql : (quos n w.sum w).length = w.length := by simp [quos]
          have rml : (rems n w.sum w).length = w.length := by simp [rems]
          have hn0 : 0 ≤ n := by omega
          generalize w.sum = s at *
          simp [wpk_skip, wpk_seq, k_cond, wpk_block, wpk_exit, wpk_ret, wpk_loop, k_ops, k_draw0, t_nil, t_cons, KT_eq, KD_eq, wpo_nil, k_cons, k_step, mt_some, mtk_some, KO_eq, KP_eq, K_normal, K_ret, K_exit, KB_normal, KB_ret, KB_exit, KL_normal, KL_ret, KL_exit, k_ret, k_normal, stepE, isCall, calleeE, opE, wantE, odE, odS, odL, odSL, fget, fput, initE, keepF, List.map_cons, List.map_nil, binE, intOp, strOp, shOp, unE, eqpE, eqnE, neqB, ressE, resE, packL, packE, flat1, fcells, fillE, setL, cellsOf_bind, cellsO_own, cellsO_ro, lenE_sl, lenE_nils, lenE_sl0, bound, rep, minE, maxE, List.getElem?_cons_zero, List.getElem?_cons_succ, get_lt, set_lt, get_len, get_len_add, set_len, set_len_add, List.append_assoc, List.cons_append, List.nil_append, -getElem?_pos, s15_3, s15_4, s15_5, s15_6, s15_7, c2, rl, l1, l1', l2, l2', l2'', l3', c]
          refine WPl.post (fun x fr' h'' => x = .exit 4 ∧ ∃ v12 v13, fr' = [(12, some (.s v12)), (13, some (.s v13)), (14, some (.s (.int .i64 (n - (quos n s w).sum))))] ∧ Gr h' h'' ∧ Ow h'.length h'' 3 encI v12 (quos n s w) ∧ Ow h'.length h'' 3 encI v13 (rems n s w) ∧ Apart v12 v13) (fun Φ hΦ => ?_) ?_
          · refine WPl.inv2 (fun m fr h2 => ∃ (k : Nat) (v5 v6 : SV), k ≤ w.length ∧ m = w.length - k ∧ Gr h' h2 ∧ Ow h'.length h2 3 encI v5 ((quos n s w).take k) ∧ Ow h'.length h2 3 encI v6 ((rems n s w).take k) ∧ Apart v5 v6 ∧
              fr = [(0, some (.s (.int .i64 n))), (6, some (.s (.int .i64 s))), (12, some (.s v5)), (13, some (.s v6)), (14, some (.s (.int .i64 (n - ((quos n s w).take k).sum)))), (77, some (.s v)), (78, some (.s (.int .i64 w.length))), (79, some (.s (.int .i64 k)))]) ?_ _ _ _ ⟨0, .nils, .nils, Nat.zero_le _, rfl, Gr.refl _, Ow.nil _ _, Ow.nil _ _, Apart.nils _, by simp⟩
            rintro I hI m fr h2 ⟨k, v5, v6, hk, rfl, gr, o5, o6, ap, rfl⟩
            refine ⟨by simp [keepF, fget], ?_⟩
            by_cases hlt : k < w.length
            · obtain ⟨i, p, o, ob, vs, rfl, q2, q3, q4⟩ := (r.gr gr).int hlt
              have q5 := lt_of_some q2
              have hx := of_decide_eq_true (List.all_eq_true.1 ha _ (List.getElem_mem hlt))
              have m0 : 0 ≤ n * w[k] := Int.mul_nonneg hn0 hx.1
              have m1 : n * w[k] ≤ 100000000000 * 1000000 := Int.mul_le_mul hn.2 hx.2 hx.1 (by decide)
              have eq : (quos n s w)[k]'(by omega) = n * w[k] / s := by simp [quos]
              have er : (rems n s w)[k]'(by omega) = n * w[k] % s := by simp [rems]
              have es := sum_take_succ (quos n s w) (k := k) (by omega)
              have eb := sum_le16 (l := (quos n s w).take k) fun x hx => qb x (List.mem_of_mem_take hx)
              have el : ((quos n s w).take k).length ≤ 16 := by simp; omega
              have e5 : (quos n s w).take (k + 1) = (quos n s w).take k ++ [n * w[k] / s] := by rw [List.take_succ_eq_append_getElem (by omega), eq]
              have e6 : (rems n s w).take (k + 1) = (rems n s w).take k ++ [n * w[k] % s] := by rw [List.take_succ_eq_append_getElem (by omega), er]
              have lA : ((quos n s w).take k).length = k := by simp; omega
              have lB : ((rems n s w).take k).length = k := by simp; omega
              rw [eq] at es
              have d0 := Int.ediv_nonneg m0 (Int.le_of_lt hs)
              have d1 := Int.ediv_le_self s m0
              obtain ⟨y, hy⟩ : ∃ y, y = n * w[k] := ⟨_, rfl⟩
              rw [← hy] at m0 m1 es d0 d1 e5 e6
              have w1 : IntKind.i64.wrap y = y := wrap_small (by omega) (by omega)
              have e1 : y.tdiv s = y / s := Int.tdiv_eq_ediv_of_nonneg m0
              have e2 : y.tmod s = y % s := Int.tmod_eq_emod_of_nonneg m0
              have w2 : IntKind.i64.wrap (y / s) = y / s := wrap_small (by omega) (by omega)
              have w4 : IntKind.i64.wrap (n - ((quos n s w).take k).sum - y / s) = n - ((quos n s w).take (k + 1)).sum := by rw [es, wrap_small (by omega) (by omega)]; omega
              have s0 : ¬ s = 0 := by omega
              have w3 : IntKind.i64.wrap ((k : Int) + 1) = ((k + 1 : Nat) : Int) := wrap_small (by omega) (by omega)
              have hA := o5.app1 (y := 8) encI_len (by omega) [LO.own 3 [.int .i64 (y / s)]] [.int .i64 (y / s)]
              obtain ⟨f1, f2⟩ := Ow.step gr o5 (y / s) [LO.own 3 [.int .i64 (y / s)]] (n := ((quos n s w).take k).length + 1) (cs := [.int .i64 (y / s)]) (m := 1) rfl rfl rfl
              rw [← e5] at f2
              have g6 := Ow.kill_apart o5 o6 ap [LO.own 3 [.int .i64 (y / s)]] [.own 3 (((quos n s w).take k).flatMap encI ++ [.int .i64 (y / s)])]
              have ap2 : Apart (.sl (h2.length + 1) 0 0 (((quos n s w).take k).length + 1)) v6 := Ow.apart_new o6 (by omega) _ _ _
              obtain ⟨H1, hH⟩ : ∃ H1, H1 = kill v5 (h2 ++ [LO.own 3 [.int .i64 (y / s)]]) ++ [.own 3 (((quos n s w).take k).flatMap encI ++ [.int .i64 (y / s)])] := ⟨_, rfl⟩
              rw [← hH] at f1 f2 g6 hA
              have hB := g6.app1 (y := 8) encI_len (by omega) [LO.own 3 [.int .i64 (y % s)]] [.int .i64 (y % s)]
              obtain ⟨f3, f4⟩ := Ow.step f1 g6 (y % s) [LO.own 3 [.int .i64 (y % s)]] (n := ((rems n s w).take k).length + 1) (cs := [.int .i64 (y % s)]) (m := 1) rfl rfl rfl
              rw [← e6] at f4
              have g5 := Ow.kill_apart g6 f2 ap2.symm [LO.own 3 [.int .i64 (y % s)]] [.own 3 (((rems n s w).take k).flatMap encI ++ [.int .i64 (y % s)])]
              have ap3 : Apart (.sl (H1.length + 1) 0 0 (((rems n s w).take k).length + 1)) (.sl (h2.length + 1) 0 0 (((quos n s w).take k).length + 1)) := Ow.apart_new f2 (by omega) _ _ _
              have l5 := o5.len
              have l6 := o6.len
              generalize (quos n s w).take k = A at *
              generalize (rems n s w).take k = B at *
              simp [wpk_skip, wpk_seq, k_cond, wpk_block, wpk_exit, wpk_ret, wpk_loop, k_ops, k_draw0, t_nil, t_cons, KT_eq, KD_eq, wpo_nil, k_cons, k_step, mt_some, mtk_some, KO_eq, KP_eq, K_normal, K_ret, K_exit, KB_normal, KB_ret, KB_exit, KL_normal, KL_ret, KL_exit, k_ret, k_normal, stepE, isCall, calleeE, opE, wantE, odE, odS, odL, odSL, fget, fput, initE, keepF, List.map_cons, List.map_nil, binE, intOp, strOp, shOp, unE, eqpE, eqnE, neqB, ressE, resE, packL, packE, flat1, fcells, fillE, setL, cellsOf_bind, cellsO_own, cellsO_ro, lenE_sl, lenE_nils, lenE_sl0, bound, rep, minE, maxE, List.getElem?_cons_zero, List.getElem?_cons_succ, get_lt, set_lt, get_len, get_len_add, set_len, set_len_add, List.append_assoc, List.cons_append, List.nil_append, -getElem?_pos, l15_2_2, l15_2_1, l15_2, hlt, q2, q3, q4, q5, elems, l5, l6, hA, hB, ← hy, e1, e2, s0, w1, w2, w3, w4]
              exact ⟨_, by omega, hI _ _ _ ⟨k + 1, _, _, hlt, rfl, f3, g5, f4, ap3.symm, rfl⟩⟩
            · obtain rfl : k = w.length := by omega
              rw [List.take_of_length_le (by omega)] at o5 o6
              rw [List.take_of_length_le (by omega)]
              simp [wpk_skip, wpk_seq, k_cond, wpk_block, wpk_exit, wpk_ret, wpk_loop, k_ops, k_draw0, t_nil, t_cons, KT_eq, KD_eq, wpo_nil, k_cons, k_step, mt_some, mtk_some, KO_eq, KP_eq, K_normal, K_ret, K_exit, KB_normal, KB_ret, KB_exit, KL_normal, KL_ret, KL_exit, k_ret, k_normal, stepE, isCall, calleeE, opE, wantE, odE, odS, odL, odSL, fget, fput, initE, keepF, List.map_cons, List.map_nil, binE, intOp, strOp, shOp, unE, eqpE, eqnE, neqB, ressE, resE, packL, packE, flat1, fcells, fillE, setL, cellsOf_bind, cellsO_own, cellsO_ro, lenE_sl, lenE_nils, lenE_sl0, bound, rep, minE, maxE, List.getElem?_cons_zero, List.getElem?_cons_succ, get_lt, set_lt, get_len, get_len_add, set_len, set_len_add, List.append_assoc, List.cons_append, List.nil_append, -getElem?_pos, l15_2_2, l15_2_1, l15_2, hlt]
              exact hΦ _ _ _ ⟨rfl, v5, v6, rfl, gr, o5, o6, ap⟩
          · rintro x fr' h1 ⟨rfl, v12, v13, rfl, g1, o12, o13, ap⟩
            have qs := sum_le16 qb
            have hsh : shareF n s w = (bumps (n - (quos n s w).sum).toNat (quos n s w, rems n s w)).1 := rfl
            have hb12 := fun x hx => qb x hx
            simp [wpk_skip, wpk_seq, k_cond, wpk_block, wpk_exit, wpk_ret, wpk_loop, k_ops, k_draw0, t_nil, t_cons, KT_eq, KD_eq, wpo_nil, k_cons, k_step, mt_some, mtk_some, KO_eq, KP_eq, K_normal, K_ret, K_exit, KB_normal, KB_ret, KB_exit, KL_normal, KL_ret, KL_exit, k_ret, k_normal, stepE, isCall, calleeE, opE, wantE, odE, odS, odL, odSL, fget, fput, initE, keepF, List.map_cons, List.map_nil, binE, intOp, strOp, shOp, unE, eqpE, eqnE, neqB, ressE, resE, packL, packE, flat1, fcells, fillE, setL, cellsOf_bind, cellsO_own, cellsO_ro, lenE_sl, lenE_nils, lenE_sl0, bound, rep, minE, maxE, List.getElem?_cons_zero, List.getElem?_cons_succ, get_lt, set_lt, get_len, get_len_add, set_len, set_len_add, List.append_assoc, List.cons_append, List.nil_append, -getElem?_pos, s15_8]
            refine WPl.post (fun x fr' h2 => x = .exit 6 ∧ fr' = [(12, some (.s v12))] ∧ Gr h' h2 ∧ Ow h'.length h2 3 encI v12 (shareF n s w)) (fun Φ hΦ => ?_) ?_
            · refine WPl.inv2 (fun m fr h2 => ∃ (k : Nat) (O R : List Int), (k : Int) ≤ max 0 (n - (quos n s w).sum) ∧ m = (n - (quos n s w).sum).toNat - k ∧ (O, R) = bumps k (quos n s w, rems n s w) ∧ (∀ x ∈ O, 0 ≤ x ∧ x ≤ 100000000000000000 + k) ∧ Gr h' h2 ∧ Ow h'.length h2 3 encI v12 O ∧ Ow h'.length h2 3 encI v13 R ∧
                fr = [(12, some (.s v12)), (13, some (.s v13)), (14, some (.s (.int .i64 (n - (quos n s w).sum - k))))]) ?_ _ _ _ ⟨0, _, _, by omega, rfl, rfl, by intro x hx; have := qb x hx; omega, g1, o12, o13, by simp⟩
              rintro I hI m fr h2 ⟨k, O, R, hk, rfl, hb, bO, gr, oO, oR, rfl⟩
              refine ⟨by simp [keepF, fget], ?_⟩
              have hbl := bumps_len k (quos n s w, rems n s w)
              rw [← hb] at hbl
              have lO : O.length = w.length := by rw [← ql]; exact hbl.1
              have lR : R.length = w.length := by rw [← rml]; exact hbl.2
              by_cases hlt : (k : Int) < n - (quos n s w).sum
              · have hlt' : n - (quos n s w).sum - (k : Int) > 0 := by omega
                have hlt'' : 0 < n - (quos n s w).sum - (k : Int) := by omega
                have w5 : IntKind.i64.wrap (n - (quos n s w).sum - k - 1) = n - (quos n s w).sum - ((k + 1 : Nat) : Int) := by rw [wrap_small (by omega) (by omega)]; omega
                have lr := oR.len
                simp [wpk_skip, wpk_seq, k_cond, wpk_block, wpk_exit, wpk_ret, wpk_loop, k_ops, k_draw0, t_nil, t_cons, KT_eq, KD_eq, wpo_nil, k_cons, k_step, mt_some, mtk_some, KO_eq, KP_eq, K_normal, K_ret, K_exit, KB_normal, KB_ret, KB_exit, KL_normal, KL_ret, KL_exit, k_ret, k_normal, stepE, isCall, calleeE, opE, wantE, odE, odS, odL, odSL, fget, fput, initE, keepF, List.map_cons, List.map_nil, binE, intOp, strOp, shOp, unE, eqpE, eqnE, neqB, ressE, resE, packL, packE, flat1, fcells, fillE, setL, cellsOf_bind, cellsO_own, cellsO_ro, lenE_sl, lenE_nils, lenE_sl0, bound, rep, minE, maxE, List.getElem?_cons_zero, List.getElem?_cons_succ, get_lt, set_lt, get_len, get_len_add, set_len, set_len_add, List.append_assoc, List.cons_append, List.nil_append, -getElem?_pos, l15_4, l15_4_1, hlt, hlt', hlt'', lr]
                refine WPl.post (fun x fr' h3 => x = .exit 8 ∧ h3 = h2 ∧ fr' = [(12, some (.s v12)), (13, some (.s v13)), (14, some (.s (.int .i64 (n - (quos n s w).sum - k)))), (17, some (.s (.int .i64 (idx (maxL R) R))))]) (fun Φ' hΦ' => ?_) ?_
                · refine WPl.inv2 (fun m fr h3 => h3 = h2 ∧ ∃ (i b : Nat), i ≤ R.length ∧ m = R.length - i ∧ b < R.length ∧ (b = 0 ∨ b < i) ∧ (∀ j, j < i → R.getD j 0 ≤ R.getD b 0) ∧ (∀ j, j < b → R.getD j 0 < R.getD b 0) ∧
                    fr = [(12, some (.s v12)), (13, some (.s v13)), (14, some (.s (.int .i64 (n - (quos n s w).sum - k)))), (17, some (.s (.int .i64 b))), (112, some (.s (.int .i64 R.length))), (113, some (.s (.int .i64 i)))]) ?_ _ _ _ ⟨rfl, 0, 0, Nat.zero_le _, rfl, by omega, .inl rfl, by intro j hj; omega, by intro j hj; omega, by simp⟩
                  rintro I' hI' m fr h3 ⟨rfl, i, b, hi, rfl, hbR, hbi, hle, hlt3, rfl⟩
                  refine ⟨by simp [keepF, fget], ?_⟩
                  by_cases hii : i < R.length
                  · obtain ⟨j, i1, rfl, i2, i3⟩ := oR.int_at hii
                    have i5 := lt_of_some i2
                    have w3 : IntKind.i64.wrap ((i : Int) + 1) = ((i + 1 : Nat) : Int) := wrap_small (by omega) (by omega)
                    have ei := getD_at hii
                    have eb := getD_at hbR
                    have t2 : i + 1 ≤ R.length := hii
                    have t3 : b + 1 ≤ R.length := hbR
                    have g3 : R[i]? = some R[i] := List.getElem?_eq_getElem hii
                    have g4 : R[b]? = some R[b] := List.getElem?_eq_getElem hbR
                    by_cases cc : R[i] > R[b]
                    · have cc' : R[b] < R[i] := cc
                      simp [wpk_skip, wpk_seq, k_cond, wpk_block, wpk_exit, wpk_ret, wpk_loop, k_ops, k_draw0, t_nil, t_cons, KT_eq, KD_eq, wpo_nil, k_cons, k_step, mt_some, mtk_some, KO_eq, KP_eq, K_normal, K_ret, K_exit, KB_normal, KB_ret, KB_exit, KL_normal, KL_ret, KL_exit, k_ret, k_normal, stepE, isCall, calleeE, opE, wantE, odE, odS, odL, odSL, fget, fput, initE, keepF, List.map_cons, List.map_nil, binE, intOp, strOp, shOp, unE, eqpE, eqnE, neqB, ressE, resE, packL, packE, flat1, fcells, fillE, setL, cellsOf_bind, cellsO_own, cellsO_ro, lenE_sl, lenE_nils, lenE_sl0, bound, rep, minE, maxE, List.getElem?_cons_zero, List.getElem?_cons_succ, get_lt, set_lt, get_len, get_len_add, set_len, set_len_add, List.append_assoc, List.cons_append, List.nil_append, -getElem?_pos, l15_3_2, l15_3_1, l15_3, hii, hbR, i2, i5, t2, t3, g3, g4, w3, cc, cc']
                      refine ⟨_, by omega, hI' _ _ _ ⟨rfl, i + 1, i, hii, rfl, hii, .inr (by omega), fun j' hj' => ?_, fun j' hj' => ?_, rfl⟩⟩
                      · by_cases e : j' = i
                        · subst e; exact Int.le_refl _
                        · have := hle j' (by omega)
                          rw [ei]; rw [eb] at this; omega
                      · have := hle j' hj'
                        rw [ei]; rw [eb] at this; omega
                    · have cc' : ¬ R[b] < R[i] := cc
                      simp [wpk_skip, wpk_seq, k_cond, wpk_block, wpk_exit, wpk_ret, wpk_loop, k_ops, k_draw0, t_nil, t_cons, KT_eq, KD_eq, wpo_nil, k_cons, k_step, mt_some, mtk_some, KO_eq, KP_eq, K_normal, K_ret, K_exit, KB_normal, KB_ret, KB_exit, KL_normal, KL_ret, KL_exit, k_ret, k_normal, stepE, isCall, calleeE, opE, wantE, odE, odS, odL, odSL, fget, fput, initE, keepF, List.map_cons, List.map_nil, binE, intOp, strOp, shOp, unE, eqpE, eqnE, neqB, ressE, resE, packL, packE, flat1, fcells, fillE, setL, cellsOf_bind, cellsO_own, cellsO_ro, lenE_sl, lenE_nils, lenE_sl0, bound, rep, minE, maxE, List.getElem?_cons_zero, List.getElem?_cons_succ, get_lt, set_lt, get_len, get_len_add, set_len, set_len_add, List.append_assoc, List.cons_append, List.nil_append, -getElem?_pos, l15_3_2, l15_3_1, l15_3, hii, hbR, i2, i5, t2, t3, g3, g4, w3, cc, cc']
                      refine ⟨_, by omega, hI' _ _ _ ⟨rfl, i + 1, b, hii, rfl, hbR, by omega, fun j' hj' => ?_, hlt3, rfl⟩⟩
                      by_cases e : j' = i
                      · subst e; rw [ei, eb]; omega
                      · exact hle j' (by omega)
                  · obtain rfl : i = R.length := by omega
                    have e := max_first hbR hle hlt3
                    rw [e] at hΦ'
                    simp [wpk_skip, wpk_seq, k_cond, wpk_block, wpk_exit, wpk_ret, wpk_loop, k_ops, k_draw0, t_nil, t_cons, KT_eq, KD_eq, wpo_nil, k_cons, k_step, mt_some, mtk_some, KO_eq, KP_eq, K_normal, K_ret, K_exit, KB_normal, KB_ret, KB_exit, KL_normal, KL_ret, KL_exit, k_ret, k_normal, stepE, isCall, calleeE, opE, wantE, odE, odS, odL, odSL, fget, fput, initE, keepF, List.map_cons, List.map_nil, binE, intOp, strOp, shOp, unE, eqpE, eqnE, neqB, ressE, resE, packL, packE, flat1, fcells, fillE, setL, cellsOf_bind, cellsO_own, cellsO_ro, lenE_sl, lenE_nils, lenE_sl0, bound, rep, minE, maxE, List.getElem?_cons_zero, List.getElem?_cons_succ, get_lt, set_lt, get_len, get_len_add, set_len, set_len_add, List.append_assoc, List.cons_append, List.nil_append, -getElem?_pos, l15_3_2, l15_3_1, l15_3, hii]
                    exact hΦ' _ _ _ ⟨rfl, rfl, rfl⟩
                · rintro x fr' h3 ⟨rfl, rfl, rfl⟩
                  have hne : R ≠ [] := fun e => by rw [e] at lR; simp at lR; omega
                  obtain ⟨i1, _⟩ := idx_lt (maxL_mem hne)
                  have e : (O.set (idx (maxL R) R) (O.getD (idx (maxL R) R) 0 + 1), R.set (idx (maxL R) R) (-1)) = bumps (k + 1) (quos n s w, rems n s w) := by
                    show _ = bump (bumps k _)
                    rw [← hb]; rfl
                  generalize idx (maxL R) R = i at *
                  have t1 : i < O.length := by omega
                  obtain ⟨j1, u1, rfl, u2, u3⟩ := oO.int_at t1
                  have u5 := lt_of_some u2
                  have t2 : i + 1 ≤ O.length := t1
                  have t3 : i + 1 ≤ R.length := i1
                  have g3 : O[i]? = some O[i] := List.getElem?_eq_getElem t1
                  have eo := getD_at t1
                  have bx := bO _ (List.getElem_mem t1)
                  have w4 : IntKind.i64.wrap (O[i] + 1) = O[i] + 1 := wrap_small (by omega) (by omega)
                  have oR2 := oR.set2 (i := j1) (fun p o n' h => ap _ _ _ _ _ _ _ rfl h) (.own 3 ((O.map (.int .i64)).set i (.int .i64 (O[i] + 1))))
                  have oO2 := u3 (O[i] + 1)
                  obtain ⟨j2, v1, rfl, v2, v3⟩ := oR2.int_at i1
                  have v5 := lt_of_some v2
                  have hj : j2 ≠ j1 := fun e => ap _ _ _ _ _ _ _ rfl (by rw [e])
                  have oR3 := v3 (-1)
                  have oO3 := oO2.set2 (i := j2) (fun p o n' h => hj (SV.sl.inj h).1.symm) (.own 3 ((R.map (.int .i64)).set i (.int .i64 (-1))))
                  rw [List.length_set] at v5
                  simp [wpk_skip, wpk_seq, k_cond, wpk_block, wpk_exit, wpk_ret, wpk_loop, k_ops, k_draw0, t_nil, t_cons, KT_eq, KD_eq, wpo_nil, k_cons, k_step, mt_some, mtk_some, KO_eq, KP_eq, K_normal, K_ret, K_exit, KB_normal, KB_ret, KB_exit, KL_normal, KL_ret, KL_exit, k_ret, k_normal, stepE, isCall, calleeE, opE, wantE, odE, odS, odL, odSL, fget, fput, initE, keepF, List.map_cons, List.map_nil, binE, intOp, strOp, shOp, unE, eqpE, eqnE, neqB, ressE, resE, packL, packE, flat1, fcells, fillE, setL, cellsOf_bind, cellsO_own, cellsO_ro, lenE_sl, lenE_nils, lenE_sl0, bound, rep, minE, maxE, List.getElem?_cons_zero, List.getElem?_cons_succ, get_lt, set_lt, get_len, get_len_add, set_len, set_len_add, List.append_assoc, List.cons_append, List.nil_append, -getElem?_pos, u2, u5, v2, v5, t1, t2, t3, i1, g3, w4, w5]
                  refine ⟨_, by omega, hI _ _ _ ⟨k + 1, _, _, by omega, rfl, e, ?_, (gr.set _ u1).set _ v1, ?_, ?_, rfl⟩⟩
                  · intro x hx
                    rcases List.mem_or_eq_of_mem_set hx with hx | rfl
                    · have := bO x hx; omega
                    · rw [eo]; omega
                  · rw [eo]; exact oO3
                  · exact oR3
              · have e0 : k = (n - (quos n s w).sum).toNat := by omega
                have hlt' : ¬ n - (quos n s w).sum - (k : Int) > 0 := by omega
                have hlt'' : ¬ 0 < n - (quos n s w).sum - (k : Int) := by omega
                have eO : O = shareF n s w := by rw [hsh, ← e0, ← hb]
                rw [eO] at oO
                simp [wpk_skip, wpk_seq, k_cond, wpk_block, wpk_exit, wpk_ret, wpk_loop, k_ops, k_draw0, t_nil, t_cons, KT_eq, KD_eq, wpo_nil, k_cons, k_step, mt_some, mtk_some, KO_eq, KP_eq, K_normal, K_ret, K_exit, KB_normal, KB_ret, KB_exit, KL_normal, KL_ret, KL_exit, k_ret, k_normal, stepE, isCall, calleeE, opE, wantE, odE, odS, odL, odSL, fget, fput, initE, keepF, List.map_cons, List.map_nil, binE, intOp, strOp, shOp, unE, eqpE, eqnE, neqB, ressE, resE, packL, packE, flat1, fcells, fillE, setL, cellsOf_bind, cellsO_own, cellsO_ro, lenE_sl, lenE_nils, lenE_sl0, bound, rep, minE, maxE, List.getElem?_cons_zero, List.getElem?_cons_succ, get_lt, set_lt, get_len, get_len_add, set_len, set_len_add, List.append_assoc, List.cons_append, List.nil_append, -getElem?_pos, l15_4, hlt, hlt', hlt'']
                exact hΦ _ _ _ ⟨rfl, rfl, gr, oO⟩
            · rintro x fr' h2 ⟨rfl, rfl, g2, o2⟩
              simp [wpk_skip, wpk_seq, k_cond, wpk_block, wpk_exit, wpk_ret, wpk_loop, k_ops, k_draw0, t_nil, t_cons, KT_eq, KD_eq, wpo_nil, k_cons, k_step, mt_some, mtk_some, KO_eq, KP_eq, K_normal, K_ret, K_exit, KB_normal, KB_ret, KB_exit, KL_normal, KL_ret, KL_exit, k_ret, k_normal, stepE, isCall, calleeE, opE, wantE, odE, odS, odL, odSL, fget, fput, initE, keepF, List.map_cons, List.map_nil, binE, intOp, strOp, shOp, unE, eqpE, eqnE, neqB, ressE, resE, packL, packE, flat1, fcells, fillE, setL, cellsOf_bind, cellsO_own, cellsO_ro, lenE_sl, lenE_nils, lenE_sl0, bound, rep, minE, maxE, List.getElem?_cons_zero, List.getElem?_cons_succ, get_lt, set_lt, get_len, get_len_add, set_len, set_len_add, List.append_assoc, List.cons_append, List.nil_append, -getElem?_pos, s15_9]
              exact hΨ _ _ ⟨g2, _, rfl, o2⟩
    · have hr : (rightF w).2 = false := by unfold rightF; rw [if_neg (by simp [ha])]
      have hk : splitOk n w = false := by unfold splitOk; rw [hr]; rfl
      have hF : splitF n w = [] := by unfold splitF; rw [hk]; rfl
      rw [hF, hk] at hΨ
      simp [wpk_skip, wpk_seq, k_cond, wpk_block, wpk_exit, wpk_ret, wpk_loop, k_ops, k_draw0, t_nil, t_cons, KT_eq, KD_eq, wpo_nil, k_cons, k_step, mt_some, mtk_some, KO_eq, KP_eq, K_normal, K_ret, K_exit, KB_normal, KB_ret, KB_exit, KL_normal, KL_ret, KL_exit, k_ret, k_normal, stepE, isCall, calleeE, opE, wantE, odE, odS, odL, odSL, fget, fput, initE, keepF, List.map_cons, List.map_nil, binE, intOp, strOp, shOp, unE, eqpE, eqnE, neqB, ressE, resE, packL, packE, flat1, fcells, fillE, setL, cellsOf_bind, cellsO_own, cellsO_ro, lenE_sl, lenE_nils, lenE_sl0, bound, rep, minE, maxE, List.getElem?_cons_zero, List.getElem?_cons_succ, get_lt, set_lt, get_len, get_len_add, set_len, set_len_add, List.append_assoc, List.cons_append, List.nil_append, -getElem?_pos]
      exact hΨ _ _ ⟨Gr.refl _, _, rfl, Ow.nil _ _⟩
end Go.Proofs.Ytejoijjmlglhfaa.Ev.CS
