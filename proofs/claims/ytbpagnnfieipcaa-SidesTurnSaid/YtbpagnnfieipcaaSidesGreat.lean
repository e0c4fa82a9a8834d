/- SidesGreat on the small machine. -/
import Derived.Test.YtbpagnnfieipcaaSidesMeet
set_option linter.unusedSimpArgs false
set_option linter.unusedVariables false
namespace Go.Proofs.Ytbpagnnfieipcaa.Ev.CT
open Go

def gl (n : Nat) : List (Nat × Nat) := (List.range n).map fun i => (100000000000 - i % 7, 0)
theorem gl_len (n : Nat) : (gl n).length = n := by simp [gl]
theorem gl_succ (k : Nat) : gl (k + 1) = gl k ++ [(100000000000 - k % 7, 0)] := by simp [gl, List.range_succ]
theorem s_snoc (l : List (Nat × Nat)) (p : Nat × Nat) : s1 (l ++ [p]) = s1 l + p.1 ∧ s2 (l ++ [p]) = s2 l + p.2 := by
  simp only [s1, s2, List.map_append, List.sum_append, List.map_cons, List.map_nil, List.sum_cons, List.sum_nil, Nat.add_zero, and_self]
theorem gl_sum : ∀ k, s1 (gl k) ≤ 100000000000 * k ∧ s2 (gl k) = 0
  | 0 => by simp [gl, s1, s2]
  | k + 1 => by
    have := gl_sum k
    rw [gl_succ, (s_snoc _ _).1, (s_snoc _ _).2]
    simp only
    omega

set_option maxRecDepth 20000 in
set_option maxHeartbeats 8000000 in
theorem sidesGreat_ok {h0 : LH} (n0 m0 : Int) : ∃ h', callX C 11 [.s (.int .i64 n0), .s (.int .i64 m0)] h0 = some (.s (.bool true), h') ∧ True := by
  suffices w : WPc C 11 [.s (.int .i64 n0), .s (.int .i64 m0)] h0 fun u _ => u = .s (.bool true) by
    obtain ⟨v, h', e, rfl⟩ := w
    exact ⟨h', e, trivial⟩
  refine WPc.post fun Ψ hΨ => ?_
  refine WPc.intro (e := e11) rfl (by simp [e11]) ?_
  show WPk C b11 _ _ (KR [.tmp 4] _)
  have y1 := fun h => within_ok n0 4000 (by omega) h
  have y2 := fun h => within_ok m0 1000 (by omega) h
  obtain ⟨n, hn⟩ : ∃ n : Nat, n0 % 4000 = n := ⟨(n0 % 4000).toNat, by omega⟩
  obtain ⟨m, hm⟩ : ∃ n : Nat, m0 % 1000 = n := ⟨(m0 % 1000).toNat, by omega⟩
  have bn : n < 4000 := by omega
  have bm : m < 1000 := by omega
  rw [hn] at y1
  rw [hm] at y2
  have rem7 : ∀ k : Nat, (k : Int).tmod 7 = ((k % 7 : Nat) : Int) := fun k => by rw [Int.tmod_eq_emod_of_nonneg (by omega)]; omega
  have w7 : ∀ k : Nat, IntKind.i64.wrap (100000000000 - ((k % 7 : Nat) : Int)) = ((100000000000 - k % 7 : Nat) : Int) := fun k => by rw [wrap_small (by omega) (by omega)]; omega
  simp [wpk_skip, wpk_seq, k_cond, wpk_block, wpk_exit, wpk_ret, wpk_loop, k_ops, k_draw0, t_nil, t_cons, KT_eq, KD_eq, wpo_nil, k_cons, k_step, mt_some, mtk_some, KO_eq, KP_eq, K_normal, K_ret, K_exit, KB_normal, KB_ret, KB_exit, KL_normal, KL_ret, KL_exit, k_ret, k_normal, stepE, isCall, calleeE, opE, wantE, odE, odS, odL, odSL, fget, fput, initE, keepF, List.map_cons, List.map_nil, binE, intOp, strOp, shOp, unE, eqpE, eqnE, neqB, ressE, resE, packL, packE, flat1, fcells, fillE, setL, cellsOf_bind, cellsO_own, cellsO_ro, lenE_sl, lenE_nils, lenE_sl0, bound, rep, minE, maxE, List.getElem?_cons_zero, List.getElem?_cons_succ, get_lt, set_lt, get_len, get_len_add, set_len, set_len_add, List.append_assoc, List.cons_append, List.nil_append, -getElem?_pos, b11, s11_1, s11_2, s11_3, y1, y2]
  refine WPl.post (fun x fr' h' => x = .exit 0 ∧ ∃ v, fr' = [(0, some (.s (.int .i64 n))), (1, some (.s (.int .i64 m))), (5, some (.s v))] ∧ Ow h0.length h' 36 encC v (gl n) ∧ Gr h0 h') (fun Φ hΦ => ?_) ?_
  · refine WPl.inv2 (fun q fr h' => ∃ (k : Nat) (v : SV), k ≤ n ∧ q = n - k ∧ Gr h0 h' ∧ Ow h0.length h' 36 encC v (gl k) ∧ fr = [(0, some (.s (.int .i64 n))), (1, some (.s (.int .i64 m))), (5, some (.s v)), (6, some (.s (.int .i64 k)))]) ?_ _ _ _ ⟨0, .nils, Nat.zero_le _, rfl, Gr.refl _, Ow.nil _ _, by simp⟩
    rintro I hI q fr h' ⟨k, v, hk, rfl, gr, ow, rfl⟩
    refine ⟨by simp [keepF, fget], ?_⟩
    by_cases hlt : k < n
    · have w3 : IntKind.i64.wrap ((k : Int) + 1) = ((k + 1 : Nat) : Int) := wrap_small (by omega) (by omega)
      have e7 := rem7 k
      have e8 := w7 k
      have eo : ofP ((100000000000 - k % 7 : Nat) : Int) = (100000000000 - k % 7, 0) := by
        unfold ofP money
        rw [if_pos (by rw [decide_eq_true_iff]; omega), if_pos (by omega)]; simp
      have q1 := fun h => of_ok ((100000000000 - k % 7 : Nat) : Int) h
      rw [eo] at q1
      have gs := gl_succ k
      have gln := gl_len k
      generalize 100000000000 - k % 7 = x at *
      generalize k % 7 = z at *
      have hA := ow.app1 (y := 16) encC_len (by omega) [LO.own 36 [cx x 0]] [cx x 0]
      obtain ⟨f1, f2⟩ := Ow.step gr ow (x, 0) [LO.own 36 [cx x 0]] (n := (gl k).length + 1) (cs := [cx x 0]) (m := 1) rfl rfl rfl
      rw [← gs] at f2
      have l5 := ow.len
      simp only [cx, fl_zero] at q1 hA f1 f2
      simp [wpk_skip, wpk_seq, k_cond, wpk_block, wpk_exit, wpk_ret, wpk_loop, k_ops, k_draw0, t_nil, t_cons, KT_eq, KD_eq, wpo_nil, k_cons, k_step, mt_some, mtk_some, KO_eq, KP_eq, K_normal, K_ret, K_exit, KB_normal, KB_ret, KB_exit, KL_normal, KL_ret, KL_exit, k_ret, k_normal, stepE, isCall, calleeE, opE, wantE, odE, odS, odL, odSL, fget, fput, initE, keepF, List.map_cons, List.map_nil, binE, intOp, strOp, shOp, unE, eqpE, eqnE, neqB, ressE, resE, packL, packE, flat1, fcells, fillE, setL, cellsOf_bind, cellsO_own, cellsO_ro, lenE_sl, lenE_nils, lenE_sl0, bound, rep, minE, maxE, List.getElem?_cons_zero, List.getElem?_cons_succ, get_lt, set_lt, get_len, get_len_add, set_len, set_len_add, List.append_assoc, List.cons_append, List.nil_append, -getElem?_pos, l11_0_1, l11_0, hlt, e7, e8, q1, l5, elems, hA, w3]
      exact ⟨_, by omega, hI _ _ _ ⟨k + 1, _, hlt, rfl, f1, f2, rfl⟩⟩
    · obtain rfl : k = n := by omega
      simp [wpk_skip, wpk_seq, k_cond, wpk_block, wpk_exit, wpk_ret, wpk_loop, k_ops, k_draw0, t_nil, t_cons, KT_eq, KD_eq, wpo_nil, k_cons, k_step, mt_some, mtk_some, KO_eq, KP_eq, K_normal, K_ret, K_exit, KB_normal, KB_ret, KB_exit, KL_normal, KL_ret, KL_exit, k_ret, k_normal, stepE, isCall, calleeE, opE, wantE, odE, odS, odL, odSL, fget, fput, initE, keepF, List.map_cons, List.map_nil, binE, intOp, strOp, shOp, unE, eqpE, eqnE, neqB, ressE, resE, packL, packE, flat1, fcells, fillE, setL, cellsOf_bind, cellsO_own, cellsO_ro, lenE_sl, lenE_nils, lenE_sl0, bound, rep, minE, maxE, List.getElem?_cons_zero, List.getElem?_cons_succ, get_lt, set_lt, get_len, get_len_add, set_len, set_len_add, List.append_assoc, List.cons_append, List.nil_append, -getElem?_pos, l11_0_1, l11_0, hlt]
      exact hΦ _ _ _ ⟨rfl, v, rfl, ow, gr⟩
  · rintro x fr' h1 ⟨rfl, v, rfl, ow, g1⟩
    have w2 : IntKind.i64.wrap (-(m : Int)) = -(m : Int) := wrap_small (by omega) (by omega)
    have eo : ofP (-(m : Int)) = (0, m) := by
      unfold ofP money
      rw [if_pos (by rw [decide_eq_true_iff]; omega), if_neg (by omega)]; simp
    have q1 := fun h => of_ok (-(m : Int)) h
    rw [eo] at q1
    have gln := gl_len n
    have hA := ow.app1 (y := 16) encC_len (by omega) [LO.own 36 [cx 0 m]] [cx 0 m]
    obtain ⟨f1, f2⟩ := Ow.step g1 ow (0, m) [LO.own 36 [cx 0 m]] (n := (gl n).length + 1) (cs := [cx 0 m]) (m := 1) rfl rfl rfl
    have l5 := ow.len
    have gs := gl_sum n
    have ss := s_snoc (gl n) (0, m)
    simp only [cx, fl_zero] at q1 hA f1 f2
    simp [wpk_skip, wpk_seq, k_cond, wpk_block, wpk_exit, wpk_ret, wpk_loop, k_ops, k_draw0, t_nil, t_cons, KT_eq, KD_eq, wpo_nil, k_cons, k_step, mt_some, mtk_some, KO_eq, KP_eq, K_normal, K_ret, K_exit, KB_normal, KB_ret, KB_exit, KL_normal, KL_ret, KL_exit, k_ret, k_normal, stepE, isCall, calleeE, opE, wantE, odE, odS, odL, odSL, fget, fput, initE, keepF, List.map_cons, List.map_nil, binE, intOp, strOp, shOp, unE, eqpE, eqnE, neqB, ressE, resE, packL, packE, flat1, fcells, fillE, setL, cellsOf_bind, cellsO_own, cellsO_ro, lenE_sl, lenE_nils, lenE_sl0, bound, rep, minE, maxE, List.getElem?_cons_zero, List.getElem?_cons_succ, get_lt, set_lt, get_len, get_len_add, set_len, set_len_add, List.append_assoc, List.cons_append, List.nil_append, -getElem?_pos, s11_4, s11_5, s11_6, q1, w2, l5, elems, hA]
    generalize kill v (h1 ++ [LO.own 36 [SV.cpl .f64 0 (fl m)]]) ++ [LO.own 36 ((gl n).flatMap encC ++ [SV.cpl .f64 0 (fl m)])] = h2 at *
    refine WPl.post (fun x fr' h' => x = .exit 2 ∧ fr' = [(1, some (.s (.int .i64 m))), (5, some (.s (.sl (h1.length + 1) 0 0 ((gl n).length + 1)))), (7, some (.s (.int .i64 (s1 (gl n)))))] ∧ h' = h2) (fun Φ hΦ => ?_) ?_
    · refine WPl.inv2 (fun q fr h' => h' = h2 ∧ ∃ (k : Nat), k ≤ n ∧ q = n - k ∧ fr = [(0, some (.s (.int .i64 n))), (1, some (.s (.int .i64 m))), (5, some (.s (.sl (h1.length + 1) 0 0 ((gl n).length + 1)))), (7, some (.s (.int .i64 (s1 (gl k))))), (8, some (.s (.int .i64 k)))]) ?_ _ _ _ ⟨rfl, 0, Nat.zero_le _, rfl, by simp [gl, s1]⟩
      rintro I hI q fr h' ⟨rfl, k, hk, rfl, rfl⟩
      refine ⟨by simp [keepF, fget], ?_⟩
      by_cases hlt : k < n
      · have w3 : IntKind.i64.wrap ((k : Int) + 1) = ((k + 1 : Nat) : Int) := wrap_small (by omega) (by omega)
        have e7 := rem7 k
        have e8 := w7 k
        have gs' := gl_succ k
        have gb := (gl_sum k).1
        have ss' := (s_snoc (gl k) (100000000000 - k % 7, 0)).1
        rw [← gs'] at ss'
        have bx : 100000000000 - k % 7 ≤ 100000000000 := by omega
        simp only at ss'
        generalize 100000000000 - k % 7 = x at *
        generalize k % 7 = z at *
        have w4 : IntKind.i64.wrap ((s1 (gl k) : Int) + (x : Int)) = (s1 (gl (k + 1)) : Int) := by
          rw [ss', wrap_small (by omega) (by omega)]; omega
        simp [wpk_skip, wpk_seq, k_cond, wpk_block, wpk_exit, wpk_ret, wpk_loop, k_ops, k_draw0, t_nil, t_cons, KT_eq, KD_eq, wpo_nil, k_cons, k_step, mt_some, mtk_some, KO_eq, KP_eq, K_normal, K_ret, K_exit, KB_normal, KB_ret, KB_exit, KL_normal, KL_ret, KL_exit, k_ret, k_normal, stepE, isCall, calleeE, opE, wantE, odE, odS, odL, odSL, fget, fput, initE, keepF, List.map_cons, List.map_nil, binE, intOp, strOp, shOp, unE, eqpE, eqnE, neqB, ressE, resE, packL, packE, flat1, fcells, fillE, setL, cellsOf_bind, cellsO_own, cellsO_ro, lenE_sl, lenE_nils, lenE_sl0, bound, rep, minE, maxE, List.getElem?_cons_zero, List.getElem?_cons_succ, get_lt, set_lt, get_len, get_len_add, set_len, set_len_add, List.append_assoc, List.cons_append, List.nil_append, -getElem?_pos, l11_1_1, l11_1, hlt, e7, e8, w3, w4]
        exact ⟨_, by omega, hI _ _ _ ⟨rfl, k + 1, hlt, rfl, rfl⟩⟩
      · obtain rfl : k = n := by omega
        simp [wpk_skip, wpk_seq, k_cond, wpk_block, wpk_exit, wpk_ret, wpk_loop, k_ops, k_draw0, t_nil, t_cons, KT_eq, KD_eq, wpo_nil, k_cons, k_step, mt_some, mtk_some, KO_eq, KP_eq, K_normal, K_ret, K_exit, KB_normal, KB_ret, KB_exit, KL_normal, KL_ret, KL_exit, k_ret, k_normal, stepE, isCall, calleeE, opE, wantE, odE, odS, odL, odSL, fget, fput, initE, keepF, List.map_cons, List.map_nil, binE, intOp, strOp, shOp, unE, eqpE, eqnE, neqB, ressE, resE, packL, packE, flat1, fcells, fillE, setL, cellsOf_bind, cellsO_own, cellsO_ro, lenE_sl, lenE_nils, lenE_sl0, bound, rep, minE, maxE, List.getElem?_cons_zero, List.getElem?_cons_succ, get_lt, set_lt, get_len, get_len_add, set_len, set_len_add, List.append_assoc, List.cons_append, List.nil_append, -getElem?_pos, l11_1_1, l11_1, hlt]
        exact hΦ _ _ _ ⟨rfl, rfl, rfl⟩
    · rintro x fr' h3 ⟨rfl, rfl, rfl⟩
      have r2 := f2.rd (z := 1) encC_len
      have sm := sum_ok r2 (by simp; omega) (by rw [ss.1]; simp only; omega) (by rw [ss.2]; simp only; omega)
      rw [ss.1, ss.2, gs.2] at sm
      simp only [Nat.add_zero, Nat.zero_add] at sm
      have bt := fun h => both_ok (d := s1 (gl n)) (c := m) (by omega) (by omega) h
      have nt := fun h => net_ok (d := s1 (gl n)) (c := m) (by omega) (by omega) h
      have w5 : IntKind.i64.wrap ((s1 (gl n) : Int) - (m : Int)) = (s1 (gl n) : Int) - (m : Int) := wrap_small (by omega) (by omega)
      have wk := fun h => wakes_ok h
      simp [wpk_skip, wpk_seq, k_cond, wpk_block, wpk_exit, wpk_ret, wpk_loop, k_ops, k_draw0, t_nil, t_cons, KT_eq, KD_eq, wpo_nil, k_cons, k_step, mt_some, mtk_some, KO_eq, KP_eq, K_normal, K_ret, K_exit, KB_normal, KB_ret, KB_exit, KL_normal, KL_ret, KL_exit, k_ret, k_normal, stepE, isCall, calleeE, opE, wantE, odE, odS, odL, odSL, fget, fput, initE, keepF, List.map_cons, List.map_nil, binE, intOp, strOp, shOp, unE, eqpE, eqnE, neqB, ressE, resE, packL, packE, flat1, fcells, fillE, setL, cellsOf_bind, cellsO_own, cellsO_ro, lenE_sl, lenE_nils, lenE_sl0, bound, rep, minE, maxE, List.getElem?_cons_zero, List.getElem?_cons_succ, get_lt, set_lt, get_len, get_len_add, set_len, set_len_add, List.append_assoc, List.cons_append, List.nil_append, -getElem?_pos, s11_7, s11_8, s11_9, sm, bt, nt, w5, wk]
      exact hΨ _ _ rfl
end Go.Proofs.Ytbpagnnfieipcaa.Ev.CT
