/- PeriodYears on the small machine. -/
import Derived.Test.YtejoijjmlglhfaaDoorPeB
set_option linter.unusedSimpArgs false
set_option linter.unusedVariables false
namespace Go.Proofs.YtejoijjmlglhfaaDoor.Ev.CP
open Go

set_option maxRecDepth 20000 in
set_option maxHeartbeats 8000000 in
theorem periodYears_ok {h0 : LH} (y0 : Int) : ∃ h', callX C 4 [.s (.int .i64 y0)] h0 = some (.s (.bool true), h') ∧ True := by
  suffices w : WPc C 4 [.s (.int .i64 y0)] h0 fun u _ => u = .s (.bool true) by
    obtain ⟨v, h', e, rfl⟩ := w
    exact ⟨h', e, trivial⟩
  refine WPc.post fun Ψ hΨ => ?_
  refine WPc.intro (e := e4) rfl (by simp [e4]) ?_
  show WPk C b4 _ _ (KR [.tmp 2] _)
  have y1 := fun h => within_ok y0 100 (by omega) h
  obtain ⟨y, hy⟩ : ∃ p : Nat, y0 % 100 = p := ⟨(y0 % 100).toNat, by omega⟩
  have by1 : y < 100 := by omega
  rw [hy] at y1
  have b1 := fun h => first_ok (y : Int) h
  obtain ⟨F, hF⟩ : ∃ F : Nat, F = 4 * y := ⟨_, rfl⟩
  have f3 : firstF (y : Int) = (F : Int) := by unfold firstF; rw [if_pos (by omega)]; omega
  rw [f3] at b1
  simp [wpk_skip, wpk_seq, k_cond, wpk_block, wpk_exit, wpk_ret, wpk_loop, k_ops, k_draw0, t_nil, t_cons, KT_eq, KD_eq, wpo_nil, k_cons, k_step, mt_some, mtk_some, KO_eq, KP_eq, K_normal, K_ret, K_exit, KB_normal, KB_ret, KB_exit, KL_normal, KL_ret, KL_exit, k_ret, k_normal, stepE, isCall, calleeE, opE, wantE, odE, odS, odL, odSL, fget, fput, initE, keepF, List.map_cons, List.map_nil, binE, intOp, strOp, shOp, unE, eqpE, eqnE, neqB, ressE, resE, packL, packE, flat1, fcells, fillE, setL, cellsOf_bind, cellsO_own, cellsO_ro, lenE_sl, lenE_nils, lenE_sl0, bound, rep, minE, maxE, List.getElem?_cons_zero, List.getElem?_cons_succ, get_lt, set_lt, get_len, get_len_add, set_len, set_len_add, List.append_assoc, List.cons_append, List.nil_append, -getElem?_pos, b4, s4_1, s4_2, s4_3, y1, b1]
  refine WPl.post (fun x fr' h' => x = .exit 0 ∧ fr' = [(0, some (.s (.int .i64 y))), (3, some (.s (.int .i64 (F : Int))))]) (fun Φ hΦ => ?_) ?_
  · refine WPl.inv2 (fun m fr h' => ∃ k : Nat, k ≤ 4 ∧ m = 4 - k ∧ fr = [(0, some (.s (.int .i64 y))), (3, some (.s (.int .i64 (F : Int)))), (4, some (.s (.int .i64 k)))]) ?_ _ _ _ ⟨0, Nat.zero_le _, rfl, by simp⟩
    rintro I hI m fr h' ⟨k, hk, rfl, rfl⟩
    refine ⟨by simp [keepF, fget], ?_⟩
    have w3 : IntKind.i64.wrap ((k : Int) + 1) = ((k + 1 : Nat) : Int) := wrap_small (by omega) (by omega)
    by_cases hlt : k < 4
    · have hlt' : (k : Int) < 4 := by omega
      have hlt2 : k + 1 ≤ 4 := hlt
      have w4 : IntKind.i64.wrap ((F : Int) + (k : Int)) = ((F + k : Nat) : Int) := by rw [wrap_small (by omega) (by omega)]; omega
      have t1 := fun h => text_ok ((F + k : Nat) : Int) h
      rw [txtF_nat (by omega)] at t1
      have r1 := fun h => right_ok ((F + k : Nat) : Int) h
      rw [decide_eq_true (by omega)] at r1
      have a1 := fun h => year_ok ((F + k : Nat) : Int) h
      have f1 : yearF ((F + k : Nat) : Int) = (y : Int) := by unfold yearF; rw [if_pos (by omega)]; omega
      rw [f1] at a1
      have sz := txt_size (F + k)
      have x1 : (txt (F + k)).extract 0 2 = ⟨#[50, 48]⟩ := by
        apply ByteArray.ext
        simp [txt, txtL, ByteArray.data_extract]
      have x2 : (txt (F + k)).extract 4 6 = ⟨#[113, dg (1 + k)]⟩ := by
        apply ByteArray.ext
        have e : (F + k) % 4 = k := by omega
        simp [txt, txtL, ByteArray.data_extract, e]
      have x3 : ([.str ⟨#[113, 49]⟩, .str ⟨#[113, 50]⟩, .str ⟨#[113, 51]⟩, .str ⟨#[113, 52]⟩] : List SV)[k]? = some (.str ⟨#[113, dg (1 + k)]⟩) := by
        have : k = 0 ∨ k = 1 ∨ k = 2 ∨ k = 3 := by omega
        rcases this with rfl | rfl | rfl | rfl <;> rfl
      generalize txt (F + k) = T at *
      generalize (F + k : Nat) = P at *
      generalize dg (1 + k) = D at *
      simp [wpk_skip, wpk_seq, k_cond, wpk_block, wpk_exit, wpk_ret, wpk_loop, k_ops, k_draw0, t_nil, t_cons, KT_eq, KD_eq, wpo_nil, k_cons, k_step, mt_some, mtk_some, KO_eq, KP_eq, K_normal, K_ret, K_exit, KB_normal, KB_ret, KB_exit, KL_normal, KL_ret, KL_exit, k_ret, k_normal, stepE, isCall, calleeE, opE, wantE, odE, odS, odL, odSL, fget, fput, initE, keepF, List.map_cons, List.map_nil, binE, intOp, strOp, shOp, unE, eqpE, eqnE, neqB, ressE, resE, packL, packE, flat1, fcells, fillE, setL, cellsOf_bind, cellsO_own, cellsO_ro, lenE_sl, lenE_nils, lenE_sl0, bound, rep, minE, maxE, List.getElem?_cons_zero, List.getElem?_cons_succ, get_lt, set_lt, get_len, get_len_add, set_len, set_len_add, List.append_assoc, List.cons_append, List.nil_append, -getElem?_pos, l4_0_1, l4_0, hlt, hlt', hlt2, w3, w4, t1, r1, a1, sz, x1, x2, x3]
      exact ⟨_, by omega, hI _ _ _ ⟨k + 1, hlt, rfl, rfl⟩⟩
    · have hlt' : ¬ (k : Int) < 4 := by omega
      simp [wpk_skip, wpk_seq, k_cond, wpk_block, wpk_exit, wpk_ret, wpk_loop, k_ops, k_draw0, t_nil, t_cons, KT_eq, KD_eq, wpo_nil, k_cons, k_step, mt_some, mtk_some, KO_eq, KP_eq, K_normal, K_ret, K_exit, KB_normal, KB_ret, KB_exit, KL_normal, KL_ret, KL_exit, k_ret, k_normal, stepE, isCall, calleeE, opE, wantE, odE, odS, odL, odSL, fget, fput, initE, keepF, List.map_cons, List.map_nil, binE, intOp, strOp, shOp, unE, eqpE, eqnE, neqB, ressE, resE, packL, packE, flat1, fcells, fillE, setL, cellsOf_bind, cellsO_own, cellsO_ro, lenE_sl, lenE_nils, lenE_sl0, bound, rep, minE, maxE, List.getElem?_cons_zero, List.getElem?_cons_succ, get_lt, set_lt, get_len, get_len_add, set_len, set_len_add, List.append_assoc, List.cons_append, List.nil_append, -getElem?_pos, l4_0_1, l4_0, hlt, hlt']
      exact hΦ _ _ _ ⟨rfl, rfl⟩
  · rintro x fr' h1 ⟨rfl, rfl⟩
    have w1 : IntKind.i64.wrap ((F : Int) - 1) = (F : Int) - 1 := wrap_small (by omega) (by omega)
    have w2 : IntKind.i64.wrap ((y : Int) - 1) = (y : Int) - 1 := wrap_small (by omega) (by omega)
    have a1 := fun h => year_ok ((F : Int) - 1) h
    have a2 := fun h => year_ok 400 h
    have a3 := fun h => year_ok (-5) h
    have c1 := fun h => first_ok (-1) h
    have c2 := fun h => first_ok 100 h
    have f1 : yearF ((F : Int) - 1) = (y : Int) - 1 := by
      unfold yearF
      split <;> omega
    rw [f1] at a1
    rw [show yearF 400 = -1 from rfl] at a2
    rw [show yearF (-5) = -1 from rfl] at a3
    rw [show firstF (-1) = -1 from rfl] at c1
    rw [show firstF 100 = -1 from rfl] at c2
    have wk := fun h => wakes_ok h
    simp [wpk_skip, wpk_seq, k_cond, wpk_block, wpk_exit, wpk_ret, wpk_loop, k_ops, k_draw0, t_nil, t_cons, KT_eq, KD_eq, wpo_nil, k_cons, k_step, mt_some, mtk_some, KO_eq, KP_eq, K_normal, K_ret, K_exit, KB_normal, KB_ret, KB_exit, KL_normal, KL_ret, KL_exit, k_ret, k_normal, stepE, isCall, calleeE, opE, wantE, odE, odS, odL, odSL, fget, fput, initE, keepF, List.map_cons, List.map_nil, binE, intOp, strOp, shOp, unE, eqpE, eqnE, neqB, ressE, resE, packL, packE, flat1, fcells, fillE, setL, cellsOf_bind, cellsO_own, cellsO_ro, lenE_sl, lenE_nils, lenE_sl0, bound, rep, minE, maxE, List.getElem?_cons_zero, List.getElem?_cons_succ, get_lt, set_lt, get_len, get_len_add, set_len, set_len_add, List.append_assoc, List.cons_append, List.nil_append, -getElem?_pos, s4_4, w1, w2, a1, a2, a3, c1, c2, wk]
    exact hΨ _ _ rfl
end Go.Proofs.YtejoijjmlglhfaaDoor.Ev.CP
