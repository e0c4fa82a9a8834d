/- SidesTell on the small machine. -/
import Derived.Test.YtbpagnnfieipcaaSidesGreat
import Derived.Test.YtbpagnnfieipcaaEvRow
set_option linter.unusedSimpArgs false
set_option linter.unusedVariables false
namespace Go.Proofs.Ytbpagnnfieipcaa.Ev.CT
open Go

def amountF (n : Int) : Int :=
  if n.tmod 23 = 20 then 100000000000 - (n.tdiv 23) % 5 + 2
  else if n.tmod 23 = 21 then -100000000000 + (n.tdiv 23) % 5 - 2
  else if n.tmod 23 = 22 then n
  else if n.tmod 23 = 19 then (n.tdiv 23) % 200000000001 - 100000000000
  else n % 4001 - 2000
theorem amount_64 {n : Int} (hn : is64 n) : is64 (amountF n) := by
  unfold amountF is64 at *
  have a1 : 0 ≤ (n.tdiv 23) % 5 ∧ (n.tdiv 23) % 5 < 5 := by omega
  have a2 : 0 ≤ (n.tdiv 23) % 200000000001 ∧ (n.tdiv 23) % 200000000001 < 200000000001 := by omega
  have a3 : 0 ≤ n % 4001 ∧ n % 4001 < 4001 := by omega
  split
  · omega
  · split
    · omega
    · split
      · omega
      · split <;> omega
theorem amount_ok {n : Int} (hn : is64 n) (h : LH) : callX C 19 [.s (.int .i64 n)] h = some (.s (.int .i64 (amountF n)), h) := by
  apply callX_wp
  refine WPc.intro (e := e19) rfl (by simp [e19]) ?_
  show WPk C b19 _ _ (KR [.tmp 2] _)
  have hd := tdiv_64 hn 23 (by omega)
  have a1 := Int.emod_lt_of_pos (n.tdiv 23) (show (0:Int) < 5 by omega)
  have a2 := Int.emod_nonneg (n.tdiv 23) (show (5:Int) ≠ 0 by omega)
  have b1 := Int.emod_lt_of_pos (n.tdiv 23) (show (0:Int) < 200000000001 by omega)
  have b2 := Int.emod_nonneg (n.tdiv 23) (show (200000000001:Int) ≠ 0 by omega)
  have c1 := Int.emod_lt_of_pos n (show (0:Int) < 4001 by omega)
  have c2 := Int.emod_nonneg n (show (4001:Int) ≠ 0 by omega)
  unfold amountF
  by_cases e0 : n.tmod 23 = 20
  · have w := within_ok (n.tdiv 23) 5 (by omega) h
    have w1 : IntKind.i64.wrap (100000000000 - n.tdiv 23 % 5) = 100000000000 - n.tdiv 23 % 5 := wrap_small (by omega) (by omega)
    have w2 : IntKind.i64.wrap (100000000000 - n.tdiv 23 % 5 + 2) = 100000000000 - n.tdiv 23 % 5 + 2 := wrap_small (by omega) (by omega)
    simp [wpk_skip, wpk_seq, k_cond, wpk_block, wpk_exit, wpk_ret, wpk_loop, k_ops, k_draw0, t_nil, t_cons, KT_eq, KD_eq, wpo_nil, k_cons, k_step, mt_some, mtk_some, KO_eq, KP_eq, K_normal, K_ret, K_exit, KB_normal, KB_ret, KB_exit, KL_normal, KL_ret, KL_exit, k_ret, k_normal, stepE, isCall, calleeE, opE, wantE, odE, odS, odL, odSL, fget, fput, initE, keepF, List.map_cons, List.map_nil, binE, intOp, strOp, shOp, unE, eqpE, eqnE, neqB, ressE, resE, packL, packE, flat1, fcells, fillE, setL, cellsOf_bind, cellsO_own, cellsO_ro, lenE_sl, lenE_nils, lenE_sl0, bound, rep, minE, maxE, List.getElem?_cons_zero, List.getElem?_cons_succ, get_lt, set_lt, get_len, get_len_add, set_len, set_len_add, List.append_assoc, List.cons_append, List.nil_append, -getElem?_pos, b19, s19_2, s19_1, e0, hd, w, w1, w2]
  by_cases e1 : n.tmod 23 = 21
  · have w := within_ok (n.tdiv 23) 5 (by omega) h
    have w1 : IntKind.i64.wrap (-100000000000 + n.tdiv 23 % 5) = -100000000000 + n.tdiv 23 % 5 := wrap_small (by omega) (by omega)
    have w2 : IntKind.i64.wrap (-100000000000 + n.tdiv 23 % 5 - 2) = -100000000000 + n.tdiv 23 % 5 - 2 := wrap_small (by omega) (by omega)
    simp [wpk_skip, wpk_seq, k_cond, wpk_block, wpk_exit, wpk_ret, wpk_loop, k_ops, k_draw0, t_nil, t_cons, KT_eq, KD_eq, wpo_nil, k_cons, k_step, mt_some, mtk_some, KO_eq, KP_eq, K_normal, K_ret, K_exit, KB_normal, KB_ret, KB_exit, KL_normal, KL_ret, KL_exit, k_ret, k_normal, stepE, isCall, calleeE, opE, wantE, odE, odS, odL, odSL, fget, fput, initE, keepF, List.map_cons, List.map_nil, binE, intOp, strOp, shOp, unE, eqpE, eqnE, neqB, ressE, resE, packL, packE, flat1, fcells, fillE, setL, cellsOf_bind, cellsO_own, cellsO_ro, lenE_sl, lenE_nils, lenE_sl0, bound, rep, minE, maxE, List.getElem?_cons_zero, List.getElem?_cons_succ, get_lt, set_lt, get_len, get_len_add, set_len, set_len_add, List.append_assoc, List.cons_append, List.nil_append, -getElem?_pos, b19, s19_2, s19_1, e1, hd, w, w1, w2]
  by_cases e2 : n.tmod 23 = 22
  · simp [wpk_skip, wpk_seq, k_cond, wpk_block, wpk_exit, wpk_ret, wpk_loop, k_ops, k_draw0, t_nil, t_cons, KT_eq, KD_eq, wpo_nil, k_cons, k_step, mt_some, mtk_some, KO_eq, KP_eq, K_normal, K_ret, K_exit, KB_normal, KB_ret, KB_exit, KL_normal, KL_ret, KL_exit, k_ret, k_normal, stepE, isCall, calleeE, opE, wantE, odE, odS, odL, odSL, fget, fput, initE, keepF, List.map_cons, List.map_nil, binE, intOp, strOp, shOp, unE, eqpE, eqnE, neqB, ressE, resE, packL, packE, flat1, fcells, fillE, setL, cellsOf_bind, cellsO_own, cellsO_ro, lenE_sl, lenE_nils, lenE_sl0, bound, rep, minE, maxE, List.getElem?_cons_zero, List.getElem?_cons_succ, get_lt, set_lt, get_len, get_len_add, set_len, set_len_add, List.append_assoc, List.cons_append, List.nil_append, -getElem?_pos, b19, s19_2, s19_1, e2]
  by_cases e3 : n.tmod 23 = 19
  · have w := within_ok (n.tdiv 23) 200000000001 (by omega) h
    have w1 : IntKind.i64.wrap (n.tdiv 23 % 200000000001 - 100000000000) = n.tdiv 23 % 200000000001 - 100000000000 := wrap_small (by omega) (by omega)
    simp [wpk_skip, wpk_seq, k_cond, wpk_block, wpk_exit, wpk_ret, wpk_loop, k_ops, k_draw0, t_nil, t_cons, KT_eq, KD_eq, wpo_nil, k_cons, k_step, mt_some, mtk_some, KO_eq, KP_eq, K_normal, K_ret, K_exit, KB_normal, KB_ret, KB_exit, KL_normal, KL_ret, KL_exit, k_ret, k_normal, stepE, isCall, calleeE, opE, wantE, odE, odS, odL, odSL, fget, fput, initE, keepF, List.map_cons, List.map_nil, binE, intOp, strOp, shOp, unE, eqpE, eqnE, neqB, ressE, resE, packL, packE, flat1, fcells, fillE, setL, cellsOf_bind, cellsO_own, cellsO_ro, lenE_sl, lenE_nils, lenE_sl0, bound, rep, minE, maxE, List.getElem?_cons_zero, List.getElem?_cons_succ, get_lt, set_lt, get_len, get_len_add, set_len, set_len_add, List.append_assoc, List.cons_append, List.nil_append, -getElem?_pos, b19, s19_2, s19_1, e3, hd, w, w1]
  · have w := within_ok n 4001 (by omega) h
    have w1 : IntKind.i64.wrap (n % 4001 - 2000) = n % 4001 - 2000 := wrap_small (by omega) (by omega)
    simp [wpk_skip, wpk_seq, k_cond, wpk_block, wpk_exit, wpk_ret, wpk_loop, k_ops, k_draw0, t_nil, t_cons, KT_eq, KD_eq, wpo_nil, k_cons, k_step, mt_some, mtk_some, KO_eq, KP_eq, K_normal, K_ret, K_exit, KB_normal, KB_ret, KB_exit, KL_normal, KL_ret, KL_exit, k_ret, k_normal, stepE, isCall, calleeE, opE, wantE, odE, odS, odL, odSL, fget, fput, initE, keepF, List.map_cons, List.map_nil, binE, intOp, strOp, shOp, unE, eqpE, eqnE, neqB, ressE, resE, packL, packE, flat1, fcells, fillE, setL, cellsOf_bind, cellsO_own, cellsO_ro, lenE_sl, lenE_nils, lenE_sl0, bound, rep, minE, maxE, List.getElem?_cons_zero, List.getElem?_cons_succ, get_lt, set_lt, get_len, get_len_add, set_len, set_len_add, List.append_assoc, List.cons_append, List.nil_append, -getElem?_pos, b19, s19_2, s19_1, e0, e1, e2, e3, w, w1]



set_option maxRecDepth 20000 in
set_option maxHeartbeats 8000000 in
theorem sidesTell_ok {h0 : LH} {av : SV} {zs : List Int} (ha : IntA h0 3 av zs) (hz : ∀ z ∈ zs, (Lit.int .i64 z).wf = true) : ∃ h', callX C 13 [.s av] h0 = some (.s (.bool true), h') ∧ True := by
  suffices w : WPc C 13 [.s av] h0 fun u _ => u = .s (.bool true) by
    obtain ⟨v, h', e, rfl⟩ := w
    exact ⟨h', e, trivial⟩
  refine WPc.post fun Ψ hΨ => ?_
  refine WPc.intro (e := e13) rfl (by simp [e13]) ?_
  show WPk C b13 _ _ (KR [.tmp 2] _)
  simp [wpk_skip, wpk_seq, k_cond, wpk_block, wpk_exit, wpk_ret, wpk_loop, k_ops, k_draw0, t_nil, t_cons, KT_eq, KD_eq, wpo_nil, k_cons, k_step, mt_some, mtk_some, KO_eq, KP_eq, K_normal, K_ret, K_exit, KB_normal, KB_ret, KB_exit, KL_normal, KL_ret, KL_exit, k_ret, k_normal, stepE, isCall, calleeE, opE, wantE, odE, odS, odL, odSL, fget, fput, initE, keepF, List.map_cons, List.map_nil, binE, intOp, strOp, shOp, unE, eqpE, eqnE, neqB, ressE, resE, packL, packE, flat1, fcells, fillE, setL, cellsOf_bind, cellsO_own, cellsO_ro, lenE_sl, lenE_nils, lenE_sl0, bound, rep, minE, maxE, List.getElem?_cons_zero, List.getElem?_cons_succ, get_lt, set_lt, get_len, get_len_add, set_len, set_len_add, List.append_assoc, List.cons_append, List.nil_append, -getElem?_pos, b13, s13_1, s13_2, s13_3]
  refine WPl.post (fun x fr' h' => x = .exit 0 ∧ ∃ (v : SV) (P : List (Nat × Nat)), fr' = [(3, some (.s (.int .i64 (s1 P)))), (4, some (.s (.int .i64 (s2 P)))), (5, some (.s v))] ∧ Ow h0.length h' 36 encC v P ∧ P.length ≤ 40 ∧ s1 P ≤ 100000000000 * P.length ∧ s2 P ≤ 100000000000 * P.length) (fun Φ hΦ => ?_) ?_
  · refine WPl.inv2 (fun q fr h' => ∃ (k : Nat) (v : SV) (P : List (Nat × Nat)), k ≤ 40 ∧ q = 40 - k ∧ Gr h0 h' ∧ Ow h0.length h' 36 encC v P ∧ P.length ≤ k ∧ s1 P ≤ 100000000000 * P.length ∧ s2 P ≤ 100000000000 * P.length ∧
      fr = [(0, some (.s av)), (3, some (.s (.int .i64 (s1 P)))), (4, some (.s (.int .i64 (s2 P)))), (5, some (.s v)), (6, some (.s (.int .i64 k)))]) ?_ _ _ _ ⟨0, .nils, [], Nat.zero_le _, rfl, Gr.refl _, Ow.nil _ _, by simp, by simp [s1], by simp [s2], by simp [s1, s2]⟩
    rintro I hI q fr h' ⟨k, v, P, hk, rfl, gr, ow, lP, b1, b2, rfl⟩
    refine ⟨by simp [keepF, fget], ?_⟩
    have rr := ha.rd.gr gr
    have rl := rr.len
    by_cases hlt : k < zs.length
    · by_cases h40 : k < 40
      · have h40' : (k : Int) < 40 := by omega
        obtain ⟨j, p, o, ob, vs, rfl, q2, q3, q4⟩ := rr.int hlt
        have q5 := lt_of_some q2
        have hx := lit_64 (hz _ (List.getElem_mem hlt))
        have a1 := fun h => amount_ok hx h
        generalize amountF zs[k] = n at a1
        have w3 : IntKind.i64.wrap ((k : Int) + 1) = ((k + 1 : Nat) : Int) := wrap_small (by omega) (by omega)
        have a2 := fun h => of_ok n h
        have ss := s_snoc P (ofP n)
        have bo := ofP_bound n
        have hA := ow.app1 (y := 16) encC_len (by omega) [LO.own 36 [cx (ofP n).1 (ofP n).2]] [cx (ofP n).1 (ofP n).2]
        obtain ⟨f1, f2⟩ := Ow.step gr ow (ofP n) [LO.own 36 [cx (ofP n).1 (ofP n).2]] (n := P.length + 1) (cs := [cx (ofP n).1 (ofP n).2]) (m := 1) rfl rfl rfl
        have l5 := ow.len
        have hlen : (P ++ [ofP n]).length = P.length + 1 := by simp
        have fin : ∀ m3 m4 : Int, m3 = (s1 (P ++ [ofP n]) : Int) → m4 = (s2 (P ++ [ofP n]) : Int) → ∃ m, m < 40 - k ∧ I m [(0, some (.s (.sl j p o zs.length))), (3, some (.s (.int .i64 m3))), (4, some (.s (.int .i64 m4))), (5, some (.s (.sl (h'.length + 1) 0 0 (P.length + 1)))), (6, some (.s (.int .i64 ((k : Int) + 1))))] (kill v (h' ++ [LO.own 36 [cx (ofP n).1 (ofP n).2]]) ++ [.own 36 (P.flatMap encC ++ [cx (ofP n).1 (ofP n).2])]) := by
          rintro m3 m4 rfl rfl
          exact ⟨_, by omega, hI _ _ _ ⟨k + 1, _, P ++ [ofP n], by omega, rfl, f1, f2, by omega, by rw [ss.1, hlen]; omega, by rw [ss.2, hlen]; omega, rfl⟩⟩
        by_cases c1 : n > 100000000000
        · have c1' : 100000000000 < n := c1
          have eo : ofP n = (0, 0) := by
            unfold ofP money
            rw [if_neg (by rw [decide_eq_true_iff]; omega)]
          rw [eo] at a2
          have en := cpl_neq (a := 0) (b := 0) (c := 0) (d := 0) (by omega) (by omega) (by omega) (by omega)
          simp only [cx, fl_zero] at a2 en
          simp [wpk_skip, wpk_seq, k_cond, wpk_block, wpk_exit, wpk_ret, wpk_loop, k_ops, k_draw0, t_nil, t_cons, KT_eq, KD_eq, wpo_nil, k_cons, k_step, mt_some, mtk_some, KO_eq, KP_eq, K_normal, K_ret, K_exit, KB_normal, KB_ret, KB_exit, KL_normal, KL_ret, KL_exit, k_ret, k_normal, stepE, isCall, calleeE, opE, wantE, odE, odS, odL, odSL, fget, fput, initE, keepF, List.map_cons, List.map_nil, binE, intOp, strOp, shOp, unE, eqpE, eqnE, neqB, ressE, resE, packL, packE, flat1, fcells, fillE, setL, cellsOf_bind, cellsO_own, cellsO_ro, lenE_sl, lenE_nils, lenE_sl0, bound, rep, minE, maxE, List.getElem?_cons_zero, List.getElem?_cons_succ, get_lt, set_lt, get_len, get_len_add, set_len, set_len_add, List.append_assoc, List.cons_append, List.nil_append, -getElem?_pos, l13_0_1, l13_0, rl, hlt, h40, h40', q2, q3, q4, q5, a1, a2, en, c1, c1', w3]
          exact ⟨_, by omega, hI _ _ _ ⟨k + 1, v, P, by omega, rfl, gr, ow, by omega, b1, b2, rfl⟩⟩
        have c1' : ¬ 100000000000 < n := c1
        by_cases c2 : n < -100000000000
        · have eo : ofP n = (0, 0) := by
            unfold ofP money
            rw [if_neg (by rw [decide_eq_true_iff]; omega)]
          rw [eo] at a2
          have en := cpl_neq (a := 0) (b := 0) (c := 0) (d := 0) (by omega) (by omega) (by omega) (by omega)
          simp only [cx, fl_zero] at a2 en
          simp [wpk_skip, wpk_seq, k_cond, wpk_block, wpk_exit, wpk_ret, wpk_loop, k_ops, k_draw0, t_nil, t_cons, KT_eq, KD_eq, wpo_nil, k_cons, k_step, mt_some, mtk_some, KO_eq, KP_eq, K_normal, K_ret, K_exit, KB_normal, KB_ret, KB_exit, KL_normal, KL_ret, KL_exit, k_ret, k_normal, stepE, isCall, calleeE, opE, wantE, odE, odS, odL, odSL, fget, fput, initE, keepF, List.map_cons, List.map_nil, binE, intOp, strOp, shOp, unE, eqpE, eqnE, neqB, ressE, resE, packL, packE, flat1, fcells, fillE, setL, cellsOf_bind, cellsO_own, cellsO_ro, lenE_sl, lenE_nils, lenE_sl0, bound, rep, minE, maxE, List.getElem?_cons_zero, List.getElem?_cons_succ, get_lt, set_lt, get_len, get_len_add, set_len, set_len_add, List.append_assoc, List.cons_append, List.nil_append, -getElem?_pos, l13_0_1, l13_0, rl, hlt, h40, h40', q2, q3, q4, q5, a1, a2, en, c1, c1', c2, w3]
          exact ⟨_, by omega, hI _ _ _ ⟨k + 1, v, P, by omega, rfl, gr, ow, by omega, b1, b2, rfl⟩⟩
        by_cases c3 : n > 0
        · have c3' : 0 < n := c3
          have eo : ofP n = (n.toNat, 0) := by
            unfold ofP money
            rw [if_pos (by rw [decide_eq_true_iff]; omega), if_pos c3]
          have w4 : IntKind.i64.wrap ((s1 P : Int) + n) = (s1 P : Int) + n := wrap_small (by omega) (by omega)
          have f3 := fin ((s1 P : Int) + n) (s2 P) (by rw [ss.1, eo]; simp only; omega) (by rw [ss.2, eo]; simp only; omega)
          generalize ofP n = O at *
          simp only [cx] at a2 hA f3
          simp [wpk_skip, wpk_seq, k_cond, wpk_block, wpk_exit, wpk_ret, wpk_loop, k_ops, k_draw0, t_nil, t_cons, KT_eq, KD_eq, wpo_nil, k_cons, k_step, mt_some, mtk_some, KO_eq, KP_eq, K_normal, K_ret, K_exit, KB_normal, KB_ret, KB_exit, KL_normal, KL_ret, KL_exit, k_ret, k_normal, stepE, isCall, calleeE, opE, wantE, odE, odS, odL, odSL, fget, fput, initE, keepF, List.map_cons, List.map_nil, binE, intOp, strOp, shOp, unE, eqpE, eqnE, neqB, ressE, resE, packL, packE, flat1, fcells, fillE, setL, cellsOf_bind, cellsO_own, cellsO_ro, lenE_sl, lenE_nils, lenE_sl0, bound, rep, minE, maxE, List.getElem?_cons_zero, List.getElem?_cons_succ, get_lt, set_lt, get_len, get_len_add, set_len, set_len_add, List.append_assoc, List.cons_append, List.nil_append, -getElem?_pos, l13_0_1, l13_0, rl, hlt, h40, h40', q2, q3, q4, q5, a1, a2, c1, c1', c2, c3, c3', w3, w4, elems, l5, hA]
          exact f3
        · have c3' : ¬ 0 < n := c3
          have eo : ofP n = (0, (-n).toNat) := by
            unfold ofP money
            rw [if_pos (by rw [decide_eq_true_iff]; omega), if_neg c3]
          have w4 : IntKind.i64.wrap ((s2 P : Int) - n) = (s2 P : Int) - n := wrap_small (by omega) (by omega)
          have f3 := fin (s1 P) ((s2 P : Int) - n) (by rw [ss.1, eo]; simp only; omega) (by rw [ss.2, eo]; simp only; omega)
          generalize ofP n = O at *
          simp only [cx] at a2 hA f3
          simp [wpk_skip, wpk_seq, k_cond, wpk_block, wpk_exit, wpk_ret, wpk_loop, k_ops, k_draw0, t_nil, t_cons, KT_eq, KD_eq, wpo_nil, k_cons, k_step, mt_some, mtk_some, KO_eq, KP_eq, K_normal, K_ret, K_exit, KB_normal, KB_ret, KB_exit, KL_normal, KL_ret, KL_exit, k_ret, k_normal, stepE, isCall, calleeE, opE, wantE, odE, odS, odL, odSL, fget, fput, initE, keepF, List.map_cons, List.map_nil, binE, intOp, strOp, shOp, unE, eqpE, eqnE, neqB, ressE, resE, packL, packE, flat1, fcells, fillE, setL, cellsOf_bind, cellsO_own, cellsO_ro, lenE_sl, lenE_nils, lenE_sl0, bound, rep, minE, maxE, List.getElem?_cons_zero, List.getElem?_cons_succ, get_lt, set_lt, get_len, get_len_add, set_len, set_len_add, List.append_assoc, List.cons_append, List.nil_append, -getElem?_pos, l13_0_1, l13_0, rl, hlt, h40, h40', q2, q3, q4, q5, a1, a2, c1, c1', c2, c3, c3', w3, w4, elems, l5, hA]
          exact f3
      · obtain rfl : k = 40 := by omega
        have hlt' : (40 : Int) < zs.length := by omega
        simp [wpk_skip, wpk_seq, k_cond, wpk_block, wpk_exit, wpk_ret, wpk_loop, k_ops, k_draw0, t_nil, t_cons, KT_eq, KD_eq, wpo_nil, k_cons, k_step, mt_some, mtk_some, KO_eq, KP_eq, K_normal, K_ret, K_exit, KB_normal, KB_ret, KB_exit, KL_normal, KL_ret, KL_exit, k_ret, k_normal, stepE, isCall, calleeE, opE, wantE, odE, odS, odL, odSL, fget, fput, initE, keepF, List.map_cons, List.map_nil, binE, intOp, strOp, shOp, unE, eqpE, eqnE, neqB, ressE, resE, packL, packE, flat1, fcells, fillE, setL, cellsOf_bind, cellsO_own, cellsO_ro, lenE_sl, lenE_nils, lenE_sl0, bound, rep, minE, maxE, List.getElem?_cons_zero, List.getElem?_cons_succ, get_lt, set_lt, get_len, get_len_add, set_len, set_len_add, List.append_assoc, List.cons_append, List.nil_append, -getElem?_pos, l13_0_1, l13_0, rl, hlt, hlt']
        exact hΦ _ _ _ ⟨rfl, v, P, rfl, ow, by omega, b1, b2⟩
    · simp [wpk_skip, wpk_seq, k_cond, wpk_block, wpk_exit, wpk_ret, wpk_loop, k_ops, k_draw0, t_nil, t_cons, KT_eq, KD_eq, wpo_nil, k_cons, k_step, mt_some, mtk_some, KO_eq, KP_eq, K_normal, K_ret, K_exit, KB_normal, KB_ret, KB_exit, KL_normal, KL_ret, KL_exit, k_ret, k_normal, stepE, isCall, calleeE, opE, wantE, odE, odS, odL, odSL, fget, fput, initE, keepF, List.map_cons, List.map_nil, binE, intOp, strOp, shOp, unE, eqpE, eqnE, neqB, ressE, resE, packL, packE, flat1, fcells, fillE, setL, cellsOf_bind, cellsO_own, cellsO_ro, lenE_sl, lenE_nils, lenE_sl0, bound, rep, minE, maxE, List.getElem?_cons_zero, List.getElem?_cons_succ, get_lt, set_lt, get_len, get_len_add, set_len, set_len_add, List.append_assoc, List.cons_append, List.nil_append, -getElem?_pos, l13_0_1, l13_0, rl, hlt]
      exact hΦ _ _ _ ⟨rfl, v, P, rfl, ow, by omega, b1, b2⟩
  · rintro x fr' h1 ⟨rfl, v, P, rfl, ow, lP, b1, b2⟩
    have sm := sum_ok (ow.rd encC_len) (by omega) (by omega) (by omega)
    obtain ⟨d, hd⟩ : ∃ d, d = s1 P := ⟨_, rfl⟩
    obtain ⟨c, hc⟩ : ∃ c, c = s2 P := ⟨_, rfl⟩
    rw [← hd, ← hc] at sm ⊢
    have bt := fun h => both_ok (d := d) (c := c) (by omega) (by omega) h
    have bt2 := fun h => both_ok (d := c) (c := d) (by omega) (by omega) h
    have nt := fun h => net_ok (d := d) (c := c) (by omega) (by omega) h
    have ev := fun h => even_ok (d := d) (c := c) (by omega) (by omega) h
    have tn := fun h => turn_ok (fl d) (fl c) h
    have ce := cpl_eql (a := d) (b := c) (c := d) (d := c) (by omega) (by omega) (by omega) (by omega)
    have w5 : IntKind.i64.wrap ((d : Int) - (c : Int)) = (d : Int) - (c : Int) := wrap_small (by omega) (by omega)
    have n1 : FloatKind.f64.nearest (d : Int) = fl d := rfl
    have n2 : FloatKind.f64.nearest (c : Int) = fl c := rfl
    have dc : ((d : Int) == (c : Int)) = decide (d = c) := by
      by_cases e : d = c
      · rw [decide_eq_true e]; simp [e]
      · rw [decide_eq_false e]
        have : ¬ (d : Int) = (c : Int) := by omega
        simpa using this
    have wk := fun h => wakes_ok h
    simp only [cx] at *
    cases hdc : decide (d = c) with
    | true =>
      rw [hdc] at dc ev
      simp [wpk_skip, wpk_seq, k_cond, wpk_block, wpk_exit, wpk_ret, wpk_loop, k_ops, k_draw0, t_nil, t_cons, KT_eq, KD_eq, wpo_nil, k_cons, k_step, mt_some, mtk_some, KO_eq, KP_eq, K_normal, K_ret, K_exit, KB_normal, KB_ret, KB_exit, KL_normal, KL_ret, KL_exit, k_ret, k_normal, stepE, isCall, calleeE, opE, wantE, odE, odS, odL, odSL, fget, fput, initE, keepF, List.map_cons, List.map_nil, binE, intOp, strOp, shOp, unE, eqpE, eqnE, neqB, ressE, resE, packL, packE, flat1, fcells, fillE, setL, cellsOf_bind, cellsO_own, cellsO_ro, lenE_sl, lenE_nils, lenE_sl0, bound, rep, minE, maxE, List.getElem?_cons_zero, List.getElem?_cons_succ, get_lt, set_lt, get_len, get_len_add, set_len, set_len_add, List.append_assoc, List.cons_append, List.nil_append, -getElem?_pos, s13_4, s13_5, s13_6, s13_7, sm, bt, bt2, nt, ev, tn, ce, w5, n1, n2, dc, wk]
      exact hΨ _ _ rfl
    | false =>
      rw [hdc] at dc ev
      simp [wpk_skip, wpk_seq, k_cond, wpk_block, wpk_exit, wpk_ret, wpk_loop, k_ops, k_draw0, t_nil, t_cons, KT_eq, KD_eq, wpo_nil, k_cons, k_step, mt_some, mtk_some, KO_eq, KP_eq, K_normal, K_ret, K_exit, KB_normal, KB_ret, KB_exit, KL_normal, KL_ret, KL_exit, k_ret, k_normal, stepE, isCall, calleeE, opE, wantE, odE, odS, odL, odSL, fget, fput, initE, keepF, List.map_cons, List.map_nil, binE, intOp, strOp, shOp, unE, eqpE, eqnE, neqB, ressE, resE, packL, packE, flat1, fcells, fillE, setL, cellsOf_bind, cellsO_own, cellsO_ro, lenE_sl, lenE_nils, lenE_sl0, bound, rep, minE, maxE, List.getElem?_cons_zero, List.getElem?_cons_succ, get_lt, set_lt, get_len, get_len_add, set_len, set_len_add, List.append_assoc, List.cons_append, List.nil_append, -getElem?_pos, s13_4, s13_5, s13_6, s13_7, sm, bt, bt2, nt, ev, tn, ce, w5, n1, n2, dc, wk]
      exact hΨ _ _ rfl
end Go.Proofs.Ytbpagnnfieipcaa.Ev.CT
