/- PeriodOrder on the small machine. -/
import Derived.Test.YtejoijjmlglhfaaDoorPeB
set_option linter.unusedSimpArgs false
set_option linter.unusedVariables false
namespace Go.Proofs.YtejoijjmlglhfaaDoor.Ev.CP
open Go

theorem less_txt {p q : Nat} (hp : p < 400) (hq : q < 400) : Op.bytesLess (txtL p) (txtL q) = decide (p < q) := by
  unfold txtL
  have e1 : ∀ a b : Nat, a < 100 → b < 100 → (decide (dg a < dg b)) = decide (a < b) := fun a b ha hb => by
    rw [decide_eq_decide]; exact dg_lt ha hb
  have e2 : ∀ a b : Nat, a < 100 → b < 100 → (dg a == dg b) = decide (a = b) := fun a b ha hb => by
    by_cases h : a = b
    · subst h; simp
    · rw [decide_eq_false h]
      have : dg a ≠ dg b := fun e => h (dg_inj ha hb e)
      simpa using this
  have n1 : ∀ a : UInt8, decide (a < a) = false := fun a => by
    rw [decide_eq_false_iff_not, UInt8.lt_iff_toNat_lt]; omega
  simp only [Op.bytesLess, n1, BEq.rfl, Bool.false_or, Bool.true_and]
  rw [e1 _ _ (by omega) (by omega), e2 _ _ (by omega) (by omega), e1 _ _ (by omega) (by omega), e2 _ _ (by omega) (by omega), e1 _ _ (by omega) (by omega)]
  rw [Bool.eq_iff_iff]
  simp only [Bool.or_eq_true, Bool.and_eq_true, decide_eq_true_eq, Bool.and_false, Bool.or_false]
  omega

set_option maxRecDepth 20000 in
set_option maxHeartbeats 8000000 in
theorem periodOrder_ok {h0 : LH} (p0 q0 : Int) : ∃ h', callX C 3 [.s (.int .i64 p0), .s (.int .i64 q0)] h0 = some (.s (.bool true), h') ∧ True := by
  suffices w : WPc C 3 [.s (.int .i64 p0), .s (.int .i64 q0)] h0 fun u _ => u = .s (.bool true) by
    obtain ⟨v, h', e, rfl⟩ := w
    exact ⟨h', e, trivial⟩
  refine WPc.post fun Ψ hΨ => ?_
  refine WPc.intro (e := e3) rfl (by simp [e3]) ?_
  show WPk C b3 _ _ (KR [.tmp 4] _)
  have y1 := fun h => within_ok p0 400 (by omega) h
  have y2 := fun h => within_ok q0 400 (by omega) h
  obtain ⟨p, hp⟩ : ∃ p : Nat, p0 % 400 = p := ⟨(p0 % 400).toNat, by omega⟩
  obtain ⟨q, hq⟩ : ∃ p : Nat, q0 % 400 = p := ⟨(q0 % 400).toNat, by omega⟩
  have bp : p < 400 := by omega
  have bq : q < 400 := by omega
  rw [hp] at y1
  rw [hq] at y2
  have t1 := fun h => text_ok (p : Int) h
  have t2 := fun h => text_ok (q : Int) h
  rw [txtF_nat bp] at t1
  rw [txtF_nat bq] at t2
  have a1 := fun h => year_ok (p : Int) h
  have a2 := fun h => year_ok (q : Int) h
  have f1 : yearF (p : Int) = ((p / 4 : Nat) : Int) := by unfold yearF; rw [if_pos (by omega)]; omega
  have f2 : yearF (q : Int) = ((q / 4 : Nat) : Int) := by unfold yearF; rw [if_pos (by omega)]; omega
  rw [f1] at a1
  rw [f2] at a2
  have b1 := fun h => first_ok ((p / 4 : Nat) : Int) h
  have f3 : firstF ((p / 4 : Nat) : Int) = ((4 * (p / 4) : Nat) : Int) := by unfold firstF; rw [if_pos (by omega)]; omega
  rw [f3] at b1
  have wk := fun h => wakes_ok h
  have lt1 := less_txt bp bq
  have eq1 : (txtL p == txtL q) = decide (p = q) := by
    by_cases h : p = q
    · subst h; simp
    · rw [decide_eq_false h]
      have : txtL p ≠ txtL q := fun e => h (txtL_inj bp bq e)
      simpa using this
  have i1 : decide ((p : Int) < (q : Int)) = decide (p < q) := by rw [decide_eq_decide]; omega
  have i2 : ((p : Int) == (q : Int)) = decide (p = q) := by
    by_cases h : p = q
    · subst h; simp
    · rw [decide_eq_false h]
      have : ¬ (p : Int) = q := by omega
      simpa using this
  have i3 : ((4 * (p / 4) : Nat) : Int) ≤ (p : Int) := by omega
  have i4 : IntKind.i64.wrap (((4 * (p / 4) : Nat) : Int) + 4) = ((4 * (p / 4) + 4 : Nat) : Int) := by rw [wrap_small (by omega) (by omega)]; omega
  have i5 : (p : Int) < ((4 * (p / 4) + 4 : Nat) : Int) := by omega
  have i6 : ¬ p > q → ((p / 4 : Nat) : Int) ≤ ((q / 4 : Nat) : Int) := by omega
  generalize 4 * (p / 4) + 4 = z at *
  generalize 4 * (p / 4) = y at *
  generalize p / 4 = u at *
  generalize q / 4 = v at *
  generalize hlt : decide (p < q) = bl at *
  generalize heq : decide (p = q) = be at *
  by_cases c : p > q
  · have c' : (p : Int) > q := by omega
    have c'' : q < p := c
    simp [wpk_skip, wpk_seq, k_cond, wpk_block, wpk_exit, wpk_ret, wpk_loop, k_ops, k_draw0, t_nil, t_cons, KT_eq, KD_eq, wpo_nil, k_cons, k_step, mt_some, mtk_some, KO_eq, KP_eq, K_normal, K_ret, K_exit, KB_normal, KB_ret, KB_exit, KL_normal, KL_ret, KL_exit, k_ret, k_normal, stepE, isCall, calleeE, opE, wantE, odE, odS, odL, odSL, fget, fput, initE, keepF, List.map_cons, List.map_nil, binE, intOp, strOp, shOp, unE, eqpE, eqnE, neqB, ressE, resE, packL, packE, flat1, fcells, fillE, setL, cellsOf_bind, cellsO_own, cellsO_ro, lenE_sl, lenE_nils, lenE_sl0, bound, rep, minE, maxE, List.getElem?_cons_zero, List.getElem?_cons_succ, get_lt, set_lt, get_len, get_len_add, set_len, set_len_add, List.append_assoc, List.cons_append, List.nil_append, -getElem?_pos, b3, s3_3, s3_2, s3_1, y1, y2, t1, t2, txt_list, lt1, eq1, i1, i2, hlt, heq, c, c', c'', a1, a2, b1, i3, i4, i5, wk]
    exact hΨ _ _ rfl
  · have c' : ¬ (p : Int) > q := by omega
    have c'' : ¬ q < p := c
    have i7 := i6 c
    simp [wpk_skip, wpk_seq, k_cond, wpk_block, wpk_exit, wpk_ret, wpk_loop, k_ops, k_draw0, t_nil, t_cons, KT_eq, KD_eq, wpo_nil, k_cons, k_step, mt_some, mtk_some, KO_eq, KP_eq, K_normal, K_ret, K_exit, KB_normal, KB_ret, KB_exit, KL_normal, KL_ret, KL_exit, k_ret, k_normal, stepE, isCall, calleeE, opE, wantE, odE, odS, odL, odSL, fget, fput, initE, keepF, List.map_cons, List.map_nil, binE, intOp, strOp, shOp, unE, eqpE, eqnE, neqB, ressE, resE, packL, packE, flat1, fcells, fillE, setL, cellsOf_bind, cellsO_own, cellsO_ro, lenE_sl, lenE_nils, lenE_sl0, bound, rep, minE, maxE, List.getElem?_cons_zero, List.getElem?_cons_succ, get_lt, set_lt, get_len, get_len_add, set_len, set_len_add, List.append_assoc, List.cons_append, List.nil_append, -getElem?_pos, b3, s3_3, s3_2, s3_1, y1, y2, t1, t2, txt_list, lt1, eq1, i1, i2, hlt, heq, c, c', c'', a1, a2, b1, i3, i4, i5, i7, wk]
    exact hΨ _ _ rfl
end Go.Proofs.YtejoijjmlglhfaaDoor.Ev.CP
