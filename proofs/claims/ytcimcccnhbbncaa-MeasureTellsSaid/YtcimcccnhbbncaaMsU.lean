/- The document's table of numbers on the small machine. -/
import Derived.Test.YtcimcccnhbbncaaMsT
set_option linter.unusedSimpArgs false
set_option linter.unusedVariables false
namespace Go.Proofs.Ytcimcccnhbbncaa.Ev.CE
open Go

set_option maxRecDepth 20000 in
set_option maxHeartbeats 4000000 in
theorem table_ok {h : LH} {v : SV} {l : List Int} (r : Rd h 3 1 encI v l) (h64 : ∀ x ∈ l, is64 x) :
    WPc C 25 [.s v] h fun u h' => Gr h h' ∧ ∃ i w rows, u = .s (.ptr i 0) ∧ Rt h.length h' i w rows ∧ Valid rows := by
  refine WPc.post fun Ψ hΨ => ?_
  refine WPc.intro (e := e25) rfl (by simp [e25]) ?_
  show WPk C b25 _ _ (KR [.tmp 2] _)
  simp [wpk_skip, wpk_seq, k_cond, wpk_block, wpk_exit, wpk_ret, wpk_loop, k_ops, k_draw0, t_nil, t_cons, KT_eq, KD_eq, wpo_nil, k_cons, k_step, mt_some, mtk_some, KO_eq, KP_eq, K_normal, K_ret, K_exit, KB_normal, KB_ret, KB_exit, KL_normal, KL_ret, KL_exit, k_ret, k_normal, stepE, isCall, calleeE, opE, wantE, odE, odS, odL, odSL, fget, fput, initE, keepF, List.map_cons, List.map_nil, binE, intOp, strOp, shOp, unE, eqpE, eqnE, neqB, ressE, resE, packL, packE, flat1, fcells, fillE, setL, cellsOf_bind, cellsO_own, cellsO_ro, lenE_sl, lenE_nils, lenE_sl0, bound, rep, minE, maxE, List.getElem?_cons_zero, List.getElem?_cons_succ, get_lt, set_lt, get_len, get_len_add, set_len, set_len_add, List.append_assoc, List.cons_append, List.nil_append, -getElem?_pos, b25, s25_3, s25_2, s25_1]
  refine WPl.post (fun x fr' h' => x = .exit 0 ∧ Gr h h' ∧ fr' = [(3, some (.s (.ptr h.length 0)))] ∧ ∃ w rows, Rt h.length h' h.length w rows ∧ Valid rows) (fun Φ hΦ => ?_) ?_
  · refine WPl.inv2 (fun m fr h' => Gr h h' ∧ ∃ k w rows, k ≤ 10 ∧ m = 10 - k ∧ Rt h.length h' h.length w rows ∧ Valid rows ∧
      fr = [(0, some (.s v)), (3, some (.s (.ptr h.length 0))), (4, some (.s (.int .i64 k)))]) ?_ _ _ _ ⟨Gr.self h _, 0, .nils, [], Nat.zero_le _, rfl, rnew_rt h, valid_nil, rfl⟩
    rintro I hI m fr h' ⟨gr, k, w, rows, hk, rfl, t, hv, rfl⟩
    refine ⟨by simp [keepF, fget], ?_⟩
    have rl := r.len
    by_cases hlt : k < l.length
    · by_cases h8 : k < 10
      · obtain ⟨j, p, q, ob, vs, rfl, q2, q3, q4⟩ := (r.gr gr).int hlt
        have q5 := lt_of_some q2
        have hx := h64 _ (List.getElem_mem hlt)
        generalize l[k] = x at hx q4
        have a1 := fun h => within_ok x 6 (by omega) h
        have a2 := tdiv_64 hx 6 (by omega)
        have a3 := fun h => Mt.rate_ok (x.tdiv 6) h
        have a4 := tdiv_64 hx 60 (by omega)
        have a5 := fun h => within_ok (x.tdiv 60) 12 (by omega) h
        have w3 : IntKind.i64.wrap ((k : Int) + 1) = ((k + 1 : Nat) : Int) := wrap_small (by omega) (by omega)
        have h8' : (k : Int) < 10 := by omega
        have e0 : (k : Int).tmod 2 = ((k % 2 : Nat) : Int) := by rw [Int.tmod_eq_emod_of_nonneg (by omega)]; omega
        obtain ⟨z, hz⟩ : ∃ q, q = k % 2 := ⟨_, rfl⟩
        rw [← hz] at e0
        have z2 : z < 2 := by omega
        have z2' : z + 1 ≤ 2 := by omega
        have z2i : (z : Int) < 2 := by omega
        obtain ⟨J, hJ⟩ : ∃ J, ([.str ⟨#[117, 107]⟩, .str ⟨#[100, 101]⟩] : List SV)[z]? = some (.str J) := by
          have : z = 0 ∨ z = 1 := by omega
          rcases this with rfl | rfl <;> exact ⟨_, rfl⟩
        generalize Mt.rateF (x.tdiv 6) = R at a3
        generalize Mt.rateR (x.tdiv 6) = RR at a3
        have qRR : (h' ++ RR)[j]? = some ob := by rw [get_lt q5]; exact q2
        have q5R : j < h'.length + RR.length := by omega
        simp [wpk_skip, wpk_seq, k_cond, wpk_block, wpk_exit, wpk_ret, wpk_loop, k_ops, k_draw0, t_nil, t_cons, KT_eq, KD_eq, wpo_nil, k_cons, k_step, mt_some, mtk_some, KO_eq, KP_eq, K_normal, K_ret, K_exit, KB_normal, KB_ret, KB_exit, KL_normal, KL_ret, KL_exit, k_ret, k_normal, stepE, isCall, calleeE, opE, wantE, odE, odS, odL, odSL, fget, fput, initE, keepF, List.map_cons, List.map_nil, binE, intOp, strOp, shOp, unE, eqpE, eqnE, neqB, ressE, resE, packL, packE, flat1, fcells, fillE, setL, cellsOf_bind, cellsO_own, cellsO_ro, lenE_sl, lenE_nils, lenE_sl0, bound, rep, minE, maxE, List.getElem?_cons_zero, List.getElem?_cons_succ, get_lt, set_lt, get_len, get_len_add, set_len, set_len_add, List.append_assoc, List.cons_append, List.nil_append, -getElem?_pos, l25_0, l25_0_1, hlt, h8', rl, q2, q3, q4]
        refine k_draw ?_
        simp [wpk_skip, wpk_seq, k_cond, wpk_block, wpk_exit, wpk_ret, wpk_loop, k_ops, k_draw0, t_nil, t_cons, KT_eq, KD_eq, wpo_nil, k_cons, k_step, mt_some, mtk_some, KO_eq, KP_eq, K_normal, K_ret, K_exit, KB_normal, KB_ret, KB_exit, KL_normal, KL_ret, KL_exit, k_ret, k_normal, stepE, isCall, calleeE, opE, wantE, odE, odS, odL, odSL, fget, fput, initE, keepF, List.map_cons, List.map_nil, binE, intOp, strOp, shOp, unE, eqpE, eqnE, neqB, ressE, resE, packL, packE, flat1, fcells, fillE, setL, cellsOf_bind, cellsO_own, cellsO_ro, lenE_sl, lenE_nils, lenE_sl0, bound, rep, minE, maxE, List.getElem?_cons_zero, List.getElem?_cons_succ, get_lt, set_lt, get_len, get_len_add, set_len, set_len_add, List.append_assoc, List.cons_append, List.nil_append, slotsG, slotsE, odT, odsT, optT, partsT, okPairs, okPair, changesE, rdAft, rdO, frLt, nmV, nmVL, nmL, nmS, -getElem?_pos, hlt, q2, q3, q4, q5, q5R, a1, a2, a3, a4, a5, e0, z2, z2', z2i, hJ]
        have tS := t.gr (Gr.self h' (RR ++ [LO.own 9 [.str ⟨#[117, 107]⟩, .str ⟨#[100, 101]⟩]]))
        have gS := gr.trans (Gr.self h' (RR ++ [LO.own 9 [.str ⟨#[117, 107]⟩, .str ⟨#[100, 101]⟩]]))
        refine WPc.go (radd_ok tS J (x % 6) R (x.tdiv 60 % 12)) ?_
        rintro _ h2 ⟨c, rfl, w2, t2⟩
        have gr2 := c.rbase tS gS
        have v2 := valid_add hv J (x % 6) R (x.tdiv 60 % 12)
        simp [wpk_skip, wpk_seq, k_cond, wpk_block, wpk_exit, wpk_ret, wpk_loop, k_ops, k_draw0, t_nil, t_cons, KT_eq, KD_eq, wpo_nil, k_cons, k_step, mt_some, mtk_some, KO_eq, KP_eq, K_normal, K_ret, K_exit, KB_normal, KB_ret, KB_exit, KL_normal, KL_ret, KL_exit, k_ret, k_normal, stepE, isCall, calleeE, opE, wantE, odE, odS, odL, odSL, fget, fput, initE, keepF, List.map_cons, List.map_nil, binE, intOp, strOp, shOp, unE, eqpE, eqnE, neqB, ressE, resE, packL, packE, flat1, fcells, fillE, setL, cellsOf_bind, cellsO_own, cellsO_ro, lenE_sl, lenE_nils, lenE_sl0, bound, rep, minE, maxE, List.getElem?_cons_zero, List.getElem?_cons_succ, get_lt, set_lt, get_len, get_len_add, set_len, set_len_add, List.append_assoc, List.cons_append, List.nil_append, slotsG, slotsE, odT, odsT, optT, partsT, okPairs, okPair, changesE, rdAft, rdO, frLt, nmV, nmVL, nmL, nmS, -getElem?_pos, hlt, q2, q3, q4, q5, q5R, a1, a2, a3, a4, a5, e0, z2, z2', z2i, hJ, w3, qRR]
        exact ⟨_, by omega, hI _ _ _ ⟨gr2, k + 1, w2, _, by omega, rfl, t2, v2, rfl⟩⟩
      · obtain rfl : k = 10 := by omega
        have hlt' : (10 : Int) < l.length := by omega
        simp [wpk_skip, wpk_seq, k_cond, wpk_block, wpk_exit, wpk_ret, wpk_loop, k_ops, k_draw0, t_nil, t_cons, KT_eq, KD_eq, wpo_nil, k_cons, k_step, mt_some, mtk_some, KO_eq, KP_eq, K_normal, K_ret, K_exit, KB_normal, KB_ret, KB_exit, KL_normal, KL_ret, KL_exit, k_ret, k_normal, stepE, isCall, calleeE, opE, wantE, odE, odS, odL, odSL, fget, fput, initE, keepF, List.map_cons, List.map_nil, binE, intOp, strOp, shOp, unE, eqpE, eqnE, neqB, ressE, resE, packL, packE, flat1, fcells, fillE, setL, cellsOf_bind, cellsO_own, cellsO_ro, lenE_sl, lenE_nils, lenE_sl0, bound, rep, minE, maxE, List.getElem?_cons_zero, List.getElem?_cons_succ, get_lt, set_lt, get_len, get_len_add, set_len, set_len_add, List.append_assoc, List.cons_append, List.nil_append, -getElem?_pos, l25_0_1, l25_0, hlt, hlt', rl]
        exact hΦ _ _ _ ⟨rfl, gr, rfl, w, rows, t, hv⟩
    · simp [wpk_skip, wpk_seq, k_cond, wpk_block, wpk_exit, wpk_ret, wpk_loop, k_ops, k_draw0, t_nil, t_cons, KT_eq, KD_eq, wpo_nil, k_cons, k_step, mt_some, mtk_some, KO_eq, KP_eq, K_normal, K_ret, K_exit, KB_normal, KB_ret, KB_exit, KL_normal, KL_ret, KL_exit, k_ret, k_normal, stepE, isCall, calleeE, opE, wantE, odE, odS, odL, odSL, fget, fput, initE, keepF, List.map_cons, List.map_nil, binE, intOp, strOp, shOp, unE, eqpE, eqnE, neqB, ressE, resE, packL, packE, flat1, fcells, fillE, setL, cellsOf_bind, cellsO_own, cellsO_ro, lenE_sl, lenE_nils, lenE_sl0, bound, rep, minE, maxE, List.getElem?_cons_zero, List.getElem?_cons_succ, get_lt, set_lt, get_len, get_len_add, set_len, set_len_add, List.append_assoc, List.cons_append, List.nil_append, -getElem?_pos, l25_0_1, l25_0, hlt, rl]
      exact hΦ _ _ _ ⟨rfl, gr, rfl, w, rows, t, hv⟩
  · rintro x fr' h' ⟨rfl, gr, rfl, w, rows, t, hv⟩
    simp [wpk_skip, wpk_seq, k_cond, wpk_block, wpk_exit, wpk_ret, wpk_loop, k_ops, k_draw0, t_nil, t_cons, KT_eq, KD_eq, wpo_nil, k_cons, k_step, mt_some, mtk_some, KO_eq, KP_eq, K_normal, K_ret, K_exit, KB_normal, KB_ret, KB_exit, KL_normal, KL_ret, KL_exit, k_ret, k_normal, stepE, isCall, calleeE, opE, wantE, odE, odS, odL, odSL, fget, fput, initE, keepF, List.map_cons, List.map_nil, binE, intOp, strOp, shOp, unE, eqpE, eqnE, neqB, ressE, resE, packL, packE, flat1, fcells, fillE, setL, cellsOf_bind, cellsO_own, cellsO_ro, lenE_sl, lenE_nils, lenE_sl0, bound, rep, minE, maxE, List.getElem?_cons_zero, List.getElem?_cons_succ, get_lt, set_lt, get_len, get_len_add, set_len, set_len_add, List.append_assoc, List.cons_append, List.nil_append, -getElem?_pos, ]
    exact hΨ _ _ ⟨gr, _, w, rows, rfl, t, hv⟩
end Go.Proofs.Ytcimcccnhbbncaa.Ev.CE
