/- RateLeast on the small machine. -/
import Derived.Test.YtalelfjjigfpeaaRateTells
set_option linter.unusedSimpArgs false
set_option linter.unusedVariables false
namespace Go.Proofs.Ytalelfjjigfpeaa.Ev.CQ
open Go

theorem minL_snoc (l : List Int) (n : Int) : minL (l ++ [n]) = if l.length = 0 then n else min (minL l) n := by
  cases l with
  | nil => rfl
  | cons a t =>
    show (t ++ [n]).foldl min a = _
    rw [List.foldl_append, List.foldl_cons, List.foldl_nil]
    simp [minL]

set_option maxRecDepth 20000 in
set_option maxHeartbeats 8000000 in
theorem rateLeast_ok {h0 : LH} {av : SV} {zs : List Int} (ha : IntA h0 3 av zs) (n : Int) (hl : zs.length * 8 ≤ 140737488351232) : ∃ h', callX C 8 [.s av, .s (.int .i64 n)] h0 = some (.s (.bool true), h') ∧ True := by
  suffices w : WPc C 8 [.s av, .s (.int .i64 n)] h0 fun u _ => u = .s (.bool true) by
    obtain ⟨v, h', e, rfl⟩ := w
    exact ⟨h', e, trivial⟩
  refine WPc.post fun Ψ hΨ => ?_
  refine WPc.intro (e := e8) rfl (by simp [e8]) ?_
  show WPk C b8 _ _ (KR [.tmp 4] _)
  have l1 := least_ok ha.rd (by omega)
  simp [wpk_skip, wpk_seq, k_cond, wpk_block, wpk_exit, wpk_ret, wpk_loop, k_ops, k_draw0, t_nil, t_cons, KT_eq, KD_eq, wpo_nil, k_cons, k_step, mt_some, mtk_some, KO_eq, KP_eq, K_normal, K_ret, K_exit, KB_normal, KB_ret, KB_exit, KL_normal, KL_ret, KL_exit, k_ret, k_normal, stepE, isCall, calleeE, opE, wantE, odE, odS, odL, odSL, fget, fput, initE, keepF, List.map_cons, List.map_nil, binE, intOp, strOp, shOp, unE, eqpE, eqnE, neqB, ressE, resE, packL, packE, flat1, fcells, fillE, setL, cellsOf_bind, cellsO_own, cellsO_ro, lenE_sl, lenE_nils, lenE_sl0, bound, rep, minE, maxE, List.getElem?_cons_zero, List.getElem?_cons_succ, get_lt, set_lt, get_len, get_len_add, set_len, set_len_add, List.append_assoc, List.cons_append, List.nil_append, -getElem?_pos, b8, s8_1, s8_2, l1]
  refine WPc.go (copy_ok ha.rd (by omega)) ?_
  rintro _ h1 ⟨g1, w, rfl, ow⟩
  obtain ⟨f1, f2⟩ := Ow.step g1 ow n [LO.own 3 [.int .i64 n]] (n := zs.length + 1) (cs := [.int .i64 n]) (m := 1) rfl rfl rfl
  have hA := ow.app1 (y := 8) encI_len (by omega)
  have l2 := least_ok (f2.rd encI_len) (by simp; omega)
  rw [minL_snoc] at l2
  simp only [List.length_append, List.length_singleton, Nat.succ_pos, decide_true, Nat.zero_lt_succ] at l2
  have o6 : ∀ h : LH, callX C 21 [.s (.sl h.length 0 0 1)] (h ++ [LO.own 3 [.int .i64 n]]) = some (.tup [.s (.int .i64 n), .s (.bool true)], h ++ [LO.own 3 [.int .i64 n]]) := by
    intro h
    have o : (h ++ [LO.own 3 [SV.int .i64 n]])[h.length]? = some (.own 3 (([n] : List Int).flatMap encI)) := get_len
    exact least_ok (Rd.lit encI_len o (p := 0)) (by simp)
  simp [wpk_skip, wpk_seq, k_cond, wpk_block, wpk_exit, wpk_ret, wpk_loop, k_ops, k_draw0, t_nil, t_cons, KT_eq, KD_eq, wpo_nil, k_cons, k_step, mt_some, mtk_some, KO_eq, KP_eq, K_normal, K_ret, K_exit, KB_normal, KB_ret, KB_exit, KL_normal, KL_ret, KL_exit, k_ret, k_normal, stepE, isCall, calleeE, opE, wantE, odE, odS, odL, odSL, fget, fput, initE, keepF, List.map_cons, List.map_nil, binE, intOp, strOp, shOp, unE, eqpE, eqnE, neqB, ressE, resE, packL, packE, flat1, fcells, fillE, setL, cellsOf_bind, cellsO_own, cellsO_ro, lenE_sl, lenE_nils, lenE_sl0, bound, rep, minE, maxE, List.getElem?_cons_zero, List.getElem?_cons_succ, get_lt, set_lt, get_len, get_len_add, set_len, set_len_add, List.append_assoc, List.cons_append, List.nil_append, -getElem?_pos, s8_3, elems, hA, l2]
  generalize kill w (h1 ++ [LO.own 3 [SV.int .i64 n]]) ++ [LO.own 3 (List.flatMap encI zs ++ [SV.int .i64 n])] = H at *
  by_cases c : zs = []
  · subst c
    simp [wpk_skip, wpk_seq, k_cond, wpk_block, wpk_exit, wpk_ret, wpk_loop, k_ops, k_draw0, t_nil, t_cons, KT_eq, KD_eq, wpo_nil, k_cons, k_step, mt_some, mtk_some, KO_eq, KP_eq, K_normal, K_ret, K_exit, KB_normal, KB_ret, KB_exit, KL_normal, KL_ret, KL_exit, k_ret, k_normal, stepE, isCall, calleeE, opE, wantE, odE, odS, odL, odSL, fget, fput, initE, keepF, List.map_cons, List.map_nil, binE, intOp, strOp, shOp, unE, eqpE, eqnE, neqB, ressE, resE, packL, packE, flat1, fcells, fillE, setL, cellsOf_bind, cellsO_own, cellsO_ro, lenE_sl, lenE_nils, lenE_sl0, bound, rep, minE, maxE, List.getElem?_cons_zero, List.getElem?_cons_succ, get_lt, set_lt, get_len, get_len_add, set_len, set_len_add, List.append_assoc, List.cons_append, List.nil_append, -getElem?_pos, s8_4, s8_5, s8_6, s8_7, minL, ha.rd.len, o6, wakes_ok]
    exact hΨ _ _ rfl
  · have c0 : 0 < zs.length := List.length_pos_iff.2 c
    have c1 : ¬ zs.length = 0 := by omega
    have c2 : (0 : Int) < zs.length := by omega
    have c3 : (if n < minL zs then n else minL zs) = min (minL zs) n := by split <;> omega
    simp [wpk_skip, wpk_seq, k_cond, wpk_block, wpk_exit, wpk_ret, wpk_loop, k_ops, k_draw0, t_nil, t_cons, KT_eq, KD_eq, wpo_nil, k_cons, k_step, mt_some, mtk_some, KO_eq, KP_eq, K_normal, K_ret, K_exit, KB_normal, KB_ret, KB_exit, KL_normal, KL_ret, KL_exit, k_ret, k_normal, stepE, isCall, calleeE, opE, wantE, odE, odS, odL, odSL, fget, fput, initE, keepF, List.map_cons, List.map_nil, binE, intOp, strOp, shOp, unE, eqpE, eqnE, neqB, ressE, resE, packL, packE, flat1, fcells, fillE, setL, cellsOf_bind, cellsO_own, cellsO_ro, lenE_sl, lenE_nils, lenE_sl0, bound, rep, minE, maxE, List.getElem?_cons_zero, List.getElem?_cons_succ, get_lt, set_lt, get_len, get_len_add, set_len, set_len_add, List.append_assoc, List.cons_append, List.nil_append, -getElem?_pos, s8_4, s8_5, s8_6, s8_7, c, c0, c1, c2, c3, ha.rd.len, o6, wakes_ok]
    exact hΨ _ _ rfl
end Go.Proofs.Ytalelfjjigfpeaa.Ev.CQ
