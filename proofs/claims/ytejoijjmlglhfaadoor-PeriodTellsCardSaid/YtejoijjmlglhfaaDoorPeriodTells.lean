/- PeriodTells on the small machine. -/
import Derived.Test.YtejoijjmlglhfaaDoorPeB
set_option linter.unusedSimpArgs false
set_option linter.unusedVariables false
namespace Go.Proofs.YtejoijjmlglhfaaDoor.Ev.CP
open Go

theorem cut_ok (s : ByteArray) (hs : s.size ≤ maxLen) (h : LH) : ∃ s' : ByteArray, callX C 17 [.s (.str s), .s (.int .i64 8)] h = some (.s (.str s'), h) := by
  refine ⟨s.extract 0 (min s.size 8), ?_⟩
  apply callX_wp
  refine WPc.intro (e := e17) rfl (by simp [e17]) ?_
  show WPk C b17 _ _ (KR [.tmp 4] _)
  have hmn : (if (8 : Int) < (s.size : Int) then (8 : Int) else (s.size : Int)) = ((min s.size 8 : Nat) : Int) := by split <;> omega
  have hle : min s.size 8 ≤ s.size := Nat.min_le_left _ _
  obtain ⟨m, hm⟩ : ∃ m, m = min s.size 8 := ⟨_, rfl⟩
  rw [← hm] at hmn hle ⊢
  have p0 : (0 : Int) ≤ (m : Int) := by omega
  simp [wpk_skip, wpk_seq, k_cond, wpk_block, wpk_exit, wpk_ret, wpk_loop, k_ops, k_draw0, t_nil, t_cons, KT_eq, KD_eq, wpo_nil, k_cons, k_step, mt_some, mtk_some, KO_eq, KP_eq, K_normal, K_ret, K_exit, KB_normal, KB_ret, KB_exit, KL_normal, KL_ret, KL_exit, k_ret, k_normal, stepE, isCall, calleeE, opE, wantE, odE, odS, odL, odSL, fget, fput, initE, keepF, List.map_cons, List.map_nil, binE, intOp, strOp, shOp, unE, eqpE, eqnE, neqB, ressE, resE, packL, packE, flat1, fcells, fillE, setL, cellsOf_bind, cellsO_own, cellsO_ro, lenE_sl, lenE_nils, lenE_sl0, bound, rep, minE, maxE, List.getElem?_cons_zero, List.getElem?_cons_succ, get_lt, set_lt, get_len, get_len_add, set_len, set_len_add, List.append_assoc, List.cons_append, List.nil_append, -getElem?_pos, b17, s17_1, hmn, hle, p0]

set_option maxRecDepth 20000 in
set_option maxHeartbeats 8000000 in
theorem periodTells_ok {h0 : LH} (p0 y0 : Int) (s0 : ByteArray) (raw : Bool) (hp : -9223372036854775808 ≤ p0 ∧ p0 < 9223372036854775808) (hy : -9223372036854775808 ≤ y0 ∧ y0 < 9223372036854775808) (hs : s0.size ≤ maxLen) :
    ∃ h', callX C 6 [.s (.int .i64 p0), .s (.int .i64 y0), .s (.str s0), .s (.bool raw)] h0 = some (.s (.bool true), h') ∧ True := by
  suffices w : WPc C 6 [.s (.int .i64 p0), .s (.int .i64 y0), .s (.str s0), .s (.bool raw)] h0 fun u _ => u = .s (.bool true) by
    obtain ⟨v, h', e, rfl⟩ := w
    exact ⟨h', e, trivial⟩
  refine WPc.post fun Ψ hΨ => ?_
  refine WPc.intro (e := e6) rfl (by simp [e6]) ?_
  show WPk C b6 _ _ (KR [.tmp 8] _)
  have main : ∀ (X : Fr) (p y : Int), WPk C s6_2 ([(0, some (.s (.int .i64 p))), (1, some (.s (.int .i64 y))), (2, some (.s (.str s0)))] ++ X) h0 (KR [ER.tmp 8] Ψ) := by
    intro X p y
    have q1 := fun h => right_ok p h
    have q2 := fun h => rperiod_ok p h
    have q3 := fun h => year_ok p h
    have q4 := fun h => ryear_ok p h
    have q5 := fun h => text_ok p h
    have q6 := fun h => rtext_ok p h
    have q7 := fun h => first_ok y h
    obtain ⟨s, hcut⟩ := cut_ok s0 hs h0
    have main2 : ∀ (X : Fr) (f : Int), f = firstF y → WPk C s6_4 ([(0, some (.s (.int .i64 p))), (1, some (.s (.int .i64 y))), (2, some (.s (.str s0))), (9, some (.s (.int .i64 f)))] ++ X) h0 (KR [ER.tmp 8] Ψ) := by
      rintro X f rfl
      generalize firstF y = F at *
      generalize yearF p = Y at *
      generalize txtF p = T at *
      generalize decide (0 ≤ p ∧ p ≤ 399) = D at *
      simp [wpk_skip, wpk_seq, k_cond, wpk_block, wpk_exit, wpk_ret, wpk_loop, k_ops, k_draw0, t_nil, t_cons, KT_eq, KD_eq, wpo_nil, k_cons, k_step, mt_some, mtk_some, KO_eq, KP_eq, K_normal, K_ret, K_exit, KB_normal, KB_ret, KB_exit, KL_normal, KL_ret, KL_exit, k_ret, k_normal, stepE, isCall, calleeE, opE, wantE, odE, odS, odL, odSL, fget, fput, initE, keepF, List.map_cons, List.map_nil, binE, intOp, strOp, shOp, unE, eqpE, eqnE, neqB, ressE, resE, packL, packE, flat1, fcells, fillE, setL, cellsOf_bind, cellsO_own, cellsO_ro, lenE_sl, lenE_nils, lenE_sl0, bound, rep, minE, maxE, List.getElem?_cons_zero, List.getElem?_cons_succ, get_lt, set_lt, get_len, get_len_add, set_len, set_len_add, List.append_assoc, List.cons_append, List.nil_append, -getElem?_pos, s6_4, s6_5, s6_6, s6_7, q1, q2, q3, q4, q5, q6, q7, hcut]
      refine WPl.post (fun x fr' h' => x = .exit 0 ∧ h' = h0 ∧ fr' = [(2, some (.s (.str s))), (10, some (.s (.int .i64 (parseF s).1))), (11, some (.s (.bool (parseF s).2)))]) (fun Φ hΦ => ?_) ?_
      · refine WPl.inv2 (fun m fr h' => h' = h0 ∧ ∃ (k : Nat) (a : Int) (b : Bool), k ≤ 400 ∧ m = 400 - k ∧ ((∃ q, q < k ∧ IsPer s q ∧ a = q ∧ b = true) ∨ ((∀ q, q < k → ¬ IsPer s q) ∧ a = 0 ∧ b = false)) ∧
          fr = [(2, some (.s (.str s))), (10, some (.s (.int .i64 a))), (11, some (.s (.bool b))), (12, some (.s (.int .i64 k)))]) ?_ _ _ _ ⟨rfl, 0, 0, false, Nat.zero_le _, rfl, .inr ⟨fun q hq => by omega, rfl, rfl⟩, rfl⟩
        rintro I hI m fr h' ⟨rfl, k, a, b, hk, rfl, hab, rfl⟩
        refine ⟨by simp [keepF, fget], ?_⟩
        have w3 : IntKind.i64.wrap ((k : Int) + 1) = ((k + 1 : Nat) : Int) := wrap_small (by omega) (by omega)
        by_cases hlt : k < 400
        · have hlt' : (k : Int) ≤ 399 := by omega
          have q := fun h => rtext_ok (k : Int) h
          rw [txtF_nat hlt] at q
          have bq := beq_str (txt k) s
          by_cases e : txt k = s
          · rw [decide_eq_true e] at bq
            simp [wpk_skip, wpk_seq, k_cond, wpk_block, wpk_exit, wpk_ret, wpk_loop, k_ops, k_draw0, t_nil, t_cons, KT_eq, KD_eq, wpo_nil, k_cons, k_step, mt_some, mtk_some, KO_eq, KP_eq, K_normal, K_ret, K_exit, KB_normal, KB_ret, KB_exit, KL_normal, KL_ret, KL_exit, k_ret, k_normal, stepE, isCall, calleeE, opE, wantE, odE, odS, odL, odSL, fget, fput, initE, keepF, List.map_cons, List.map_nil, binE, intOp, strOp, shOp, unE, eqpE, eqnE, neqB, ressE, resE, packL, packE, flat1, fcells, fillE, setL, cellsOf_bind, cellsO_own, cellsO_ro, lenE_sl, lenE_nils, lenE_sl0, bound, rep, minE, maxE, List.getElem?_cons_zero, List.getElem?_cons_succ, get_lt, set_lt, get_len, get_len_add, set_len, set_len_add, List.append_assoc, List.cons_append, List.nil_append, -getElem?_pos, l6_0_1, l6_0, hlt, hlt', q, bq, w3]
            exact ⟨_, by omega, hI _ _ _ ⟨rfl, k + 1, k, true, by omega, rfl, .inl ⟨k, by omega, ⟨hlt, e⟩, rfl, rfl⟩, rfl⟩⟩
          · rw [decide_eq_false e] at bq
            simp [wpk_skip, wpk_seq, k_cond, wpk_block, wpk_exit, wpk_ret, wpk_loop, k_ops, k_draw0, t_nil, t_cons, KT_eq, KD_eq, wpo_nil, k_cons, k_step, mt_some, mtk_some, KO_eq, KP_eq, K_normal, K_ret, K_exit, KB_normal, KB_ret, KB_exit, KL_normal, KL_ret, KL_exit, k_ret, k_normal, stepE, isCall, calleeE, opE, wantE, odE, odS, odL, odSL, fget, fput, initE, keepF, List.map_cons, List.map_nil, binE, intOp, strOp, shOp, unE, eqpE, eqnE, neqB, ressE, resE, packL, packE, flat1, fcells, fillE, setL, cellsOf_bind, cellsO_own, cellsO_ro, lenE_sl, lenE_nils, lenE_sl0, bound, rep, minE, maxE, List.getElem?_cons_zero, List.getElem?_cons_succ, get_lt, set_lt, get_len, get_len_add, set_len, set_len_add, List.append_assoc, List.cons_append, List.nil_append, -getElem?_pos, l6_0_1, l6_0, hlt, hlt', q, bq, w3]
            refine ⟨_, by omega, hI _ _ _ ⟨rfl, k + 1, a, b, by omega, rfl, ?_, rfl⟩⟩
            rcases hab with ⟨q, q1, q2⟩ | ⟨q1, q2⟩
            · exact .inl ⟨q, by omega, q2⟩
            · refine .inr ⟨fun q hq => ?_, q2⟩
              by_cases e2 : q = k
              · rw [e2]; exact fun hp => e hp.2
              · exact q1 q (by omega)
        · have hlt' : ¬ (k : Int) ≤ 399 := by omega
          have hab' : a = (parseF s).1 ∧ b = (parseF s).2 := by
            rcases hab with ⟨q, q1, q2, rfl, rfl⟩ | ⟨q1, rfl, rfl⟩
            · rw [parse_some q2]; exact ⟨rfl, rfl⟩
            · rw [parse_none fun q hq => q1 q (by have := hq.1; omega) hq]; exact ⟨rfl, rfl⟩
          obtain ⟨rfl, rfl⟩ := hab'
          simp [wpk_skip, wpk_seq, k_cond, wpk_block, wpk_exit, wpk_ret, wpk_loop, k_ops, k_draw0, t_nil, t_cons, KT_eq, KD_eq, wpo_nil, k_cons, k_step, mt_some, mtk_some, KO_eq, KP_eq, K_normal, K_ret, K_exit, KB_normal, KB_ret, KB_exit, KL_normal, KL_ret, KL_exit, k_ret, k_normal, stepE, isCall, calleeE, opE, wantE, odE, odS, odL, odSL, fget, fput, initE, keepF, List.map_cons, List.map_nil, binE, intOp, strOp, shOp, unE, eqpE, eqnE, neqB, ressE, resE, packL, packE, flat1, fcells, fillE, setL, cellsOf_bind, cellsO_own, cellsO_ro, lenE_sl, lenE_nils, lenE_sl0, bound, rep, minE, maxE, List.getElem?_cons_zero, List.getElem?_cons_succ, get_lt, set_lt, get_len, get_len_add, set_len, set_len_add, List.append_assoc, List.cons_append, List.nil_append, -getElem?_pos, l6_0_1, l6_0, hlt, hlt']
          exact hΦ _ _ _ ⟨rfl, rfl, rfl⟩
      · rintro x fr' h1 ⟨rfl, rfl, rfl⟩
        have pq := fun h => parse_ok s h
        have wk := fun h => wakes_ok h
        simp [wpk_skip, wpk_seq, k_cond, wpk_block, wpk_exit, wpk_ret, wpk_loop, k_ops, k_draw0, t_nil, t_cons, KT_eq, KD_eq, wpo_nil, k_cons, k_step, mt_some, mtk_some, KO_eq, KP_eq, K_normal, K_ret, K_exit, KB_normal, KB_ret, KB_exit, KL_normal, KL_ret, KL_exit, k_ret, k_normal, stepE, isCall, calleeE, opE, wantE, odE, odS, odL, odSL, fget, fput, initE, keepF, List.map_cons, List.map_nil, binE, intOp, strOp, shOp, unE, eqpE, eqnE, neqB, ressE, resE, packL, packE, flat1, fcells, fillE, setL, cellsOf_bind, cellsO_own, cellsO_ro, lenE_sl, lenE_nils, lenE_sl0, bound, rep, minE, maxE, List.getElem?_cons_zero, List.getElem?_cons_succ, get_lt, set_lt, get_len, get_len_add, set_len, set_len_add, List.append_assoc, List.cons_append, List.nil_append, -getElem?_pos, s6_8, s6_9, pq, wk]
        exact hΨ _ _ rfl
    by_cases c1 : y ≥ 0
    · have c1' : 0 ≤ y := c1
      by_cases c2 : y ≤ 99
      · have w : IntKind.i64.wrap (4 * y) = 4 * y := wrap_small (by omega) (by omega)
        simp [wpk_skip, wpk_seq, k_cond, wpk_block, wpk_exit, wpk_ret, wpk_loop, k_ops, k_draw0, t_nil, t_cons, KT_eq, KD_eq, wpo_nil, k_cons, k_step, mt_some, mtk_some, KO_eq, KP_eq, K_normal, K_ret, K_exit, KB_normal, KB_ret, KB_exit, KL_normal, KL_ret, KL_exit, k_ret, k_normal, stepE, isCall, calleeE, opE, wantE, odE, odS, odL, odSL, fget, fput, initE, keepF, List.map_cons, List.map_nil, binE, intOp, strOp, shOp, unE, eqpE, eqnE, neqB, ressE, resE, packL, packE, flat1, fcells, fillE, setL, cellsOf_bind, cellsO_own, cellsO_ro, lenE_sl, lenE_nils, lenE_sl0, bound, rep, minE, maxE, List.getElem?_cons_zero, List.getElem?_cons_succ, get_lt, set_lt, get_len, get_len_add, set_len, set_len_add, List.append_assoc, List.cons_append, List.nil_append, -getElem?_pos, s6_2, s6_3, c1, c1', c2, w]
        exact main2 [] _ (by unfold firstF; rw [if_pos ⟨c1', c2⟩])
      · simp [wpk_skip, wpk_seq, k_cond, wpk_block, wpk_exit, wpk_ret, wpk_loop, k_ops, k_draw0, t_nil, t_cons, KT_eq, KD_eq, wpo_nil, k_cons, k_step, mt_some, mtk_some, KO_eq, KP_eq, K_normal, K_ret, K_exit, KB_normal, KB_ret, KB_exit, KL_normal, KL_ret, KL_exit, k_ret, k_normal, stepE, isCall, calleeE, opE, wantE, odE, odS, odL, odSL, fget, fput, initE, keepF, List.map_cons, List.map_nil, binE, intOp, strOp, shOp, unE, eqpE, eqnE, neqB, ressE, resE, packL, packE, flat1, fcells, fillE, setL, cellsOf_bind, cellsO_own, cellsO_ro, lenE_sl, lenE_nils, lenE_sl0, bound, rep, minE, maxE, List.getElem?_cons_zero, List.getElem?_cons_succ, get_lt, set_lt, get_len, get_len_add, set_len, set_len_add, List.append_assoc, List.cons_append, List.nil_append, -getElem?_pos, s6_2, s6_3, c1, c1', c2]
        exact main2 [_] _ (by unfold firstF; rw [if_neg (by omega)])
    · have c1' : ¬ 0 ≤ y := c1
      simp [wpk_skip, wpk_seq, k_cond, wpk_block, wpk_exit, wpk_ret, wpk_loop, k_ops, k_draw0, t_nil, t_cons, KT_eq, KD_eq, wpo_nil, k_cons, k_step, mt_some, mtk_some, KO_eq, KP_eq, K_normal, K_ret, K_exit, KB_normal, KB_ret, KB_exit, KL_normal, KL_ret, KL_exit, k_ret, k_normal, stepE, isCall, calleeE, opE, wantE, odE, odS, odL, odSL, fget, fput, initE, keepF, List.map_cons, List.map_nil, binE, intOp, strOp, shOp, unE, eqpE, eqnE, neqB, ressE, resE, packL, packE, flat1, fcells, fillE, setL, cellsOf_bind, cellsO_own, cellsO_ro, lenE_sl, lenE_nils, lenE_sl0, bound, rep, minE, maxE, List.getElem?_cons_zero, List.getElem?_cons_succ, get_lt, set_lt, get_len, get_len_add, set_len, set_len_add, List.append_assoc, List.cons_append, List.nil_append, -getElem?_pos, s6_2, s6_3, c1, c1']
      exact main2 [_] _ (by unfold firstF; rw [if_neg (by omega)])
  have y1 := fun h => within_ok p0 402 (by omega) h
  have y2 := fun h => within_ok y0 102 (by omega) h
  have w1 : IntKind.i64.wrap (p0 % 402 - 1) = p0 % 402 - 1 := wrap_small (by omega) (by omega)
  have w2 : IntKind.i64.wrap (y0 % 102 - 1) = y0 % 102 - 1 := wrap_small (by omega) (by omega)
  cases raw with
  | true =>
    simp [wpk_skip, wpk_seq, k_cond, wpk_block, wpk_exit, wpk_ret, wpk_loop, k_ops, k_draw0, t_nil, t_cons, KT_eq, KD_eq, wpo_nil, k_cons, k_step, mt_some, mtk_some, KO_eq, KP_eq, K_normal, K_ret, K_exit, KB_normal, KB_ret, KB_exit, KL_normal, KL_ret, KL_exit, k_ret, k_normal, stepE, isCall, calleeE, opE, wantE, odE, odS, odL, odSL, fget, fput, initE, keepF, List.map_cons, List.map_nil, binE, intOp, strOp, shOp, unE, eqpE, eqnE, neqB, ressE, resE, packL, packE, flat1, fcells, fillE, setL, cellsOf_bind, cellsO_own, cellsO_ro, lenE_sl, lenE_nils, lenE_sl0, bound, rep, minE, maxE, List.getElem?_cons_zero, List.getElem?_cons_succ, get_lt, set_lt, get_len, get_len_add, set_len, set_len_add, List.append_assoc, List.cons_append, List.nil_append, -getElem?_pos, b6, s6_1]
    exact main [_] _ _
  | false =>
    simp [wpk_skip, wpk_seq, k_cond, wpk_block, wpk_exit, wpk_ret, wpk_loop, k_ops, k_draw0, t_nil, t_cons, KT_eq, KD_eq, wpo_nil, k_cons, k_step, mt_some, mtk_some, KO_eq, KP_eq, K_normal, K_ret, K_exit, KB_normal, KB_ret, KB_exit, KL_normal, KL_ret, KL_exit, k_ret, k_normal, stepE, isCall, calleeE, opE, wantE, odE, odS, odL, odSL, fget, fput, initE, keepF, List.map_cons, List.map_nil, binE, intOp, strOp, shOp, unE, eqpE, eqnE, neqB, ressE, resE, packL, packE, flat1, fcells, fillE, setL, cellsOf_bind, cellsO_own, cellsO_ro, lenE_sl, lenE_nils, lenE_sl0, bound, rep, minE, maxE, List.getElem?_cons_zero, List.getElem?_cons_succ, get_lt, set_lt, get_len, get_len_add, set_len, set_len_add, List.append_assoc, List.cons_append, List.nil_append, -getElem?_pos, b6, s6_1, y1, y2, w1, w2]
    exact main [] _ _
end Go.Proofs.YtejoijjmlglhfaaDoor.Ev.CP
