/- RateSums on the small machine. -/
import Derived.Test.YtalelfjjigfpeaaRtA
import Derived.Test.YtalelfjjigfpeaaEvRow
set_option linter.unusedSimpArgs false
set_option linter.unusedVariables false
namespace Go.Proofs.Ytalelfjjigfpeaa.Ev.CQ
open Go

theorem IntA.form {h : LH} {e : Nat} {v : SV} {l : List Int} (a : IntA h e v l) : v = .nils ∨ ∃ j n, v = .sl j 0 0 n := by
  rcases a with ⟨rfl, _⟩ | ⟨j, rfl, _⟩
  · exact .inl rfl
  · exact .inr ⟨_, _, rfl⟩
theorem sum_reverse (l : List Int) : l.reverse.sum = l.sum := by
  induction l with
  | nil => rfl
  | cons a l ih => rw [List.reverse_cons, List.sum_append, ih]; simp; omega

set_option maxRecDepth 20000 in
set_option maxHeartbeats 8000000 in
theorem rateSums_ok {h0 : LH} {av : SV} {zs : List Int} (ha : IntA h0 3 av zs) (at0 : Int) : ∃ h', callX C 7 [.s av, .s (.int .i64 at0)] h0 = some (.s (.bool true), h') ∧ True := by
  suffices w : WPc C 7 [.s av, .s (.int .i64 at0)] h0 fun u _ => u = .s (.bool true) by
    obtain ⟨v, h', e, rfl⟩ := w
    exact ⟨h', e, trivial⟩
  refine WPc.post fun Ψ hΨ => ?_
  refine WPc.intro (e := e7) rfl (by simp [e7]) ?_
  show WPk C b7 _ _ (KR [.tmp 4] _)
  simp [wpk_skip, wpk_seq, k_cond, wpk_block, wpk_exit, wpk_ret, wpk_loop, k_ops, k_draw0, t_nil, t_cons, KT_eq, KD_eq, wpo_nil, k_cons, k_step, mt_some, mtk_some, KO_eq, KP_eq, K_normal, K_ret, K_exit, KB_normal, KB_ret, KB_exit, KL_normal, KL_ret, KL_exit, k_ret, k_normal, stepE, isCall, calleeE, opE, wantE, odE, odS, odL, odSL, fget, fput, initE, keepF, List.map_cons, List.map_nil, binE, intOp, strOp, shOp, unE, eqpE, eqnE, neqB, ressE, resE, packL, packE, flat1, fcells, fillE, setL, cellsOf_bind, cellsO_own, cellsO_ro, lenE_sl, lenE_nils, lenE_sl0, bound, rep, minE, maxE, List.getElem?_cons_zero, List.getElem?_cons_succ, get_lt, set_lt, get_len, get_len_add, set_len, set_len_add, List.append_assoc, List.cons_append, List.nil_append, -getElem?_pos, b7, s7_1]
  refine WPc.go (cut_ok (IntA.form ha) ha.rd 10 (by omega)) ?_
  rintro _ h1 ⟨g1, w, rfl, ow⟩
  have hS : (zs.take 10).length ≤ 10 := by simp; omega
  generalize zs.take 10 = S0 at *
  simp [wpk_skip, wpk_seq, k_cond, wpk_block, wpk_exit, wpk_ret, wpk_loop, k_ops, k_draw0, t_nil, t_cons, KT_eq, KD_eq, wpo_nil, k_cons, k_step, mt_some, mtk_some, KO_eq, KP_eq, K_normal, K_ret, K_exit, KB_normal, KB_ret, KB_exit, KL_normal, KL_ret, KL_exit, k_ret, k_normal, stepE, isCall, calleeE, opE, wantE, odE, odS, odL, odSL, fget, fput, initE, keepF, List.map_cons, List.map_nil, binE, intOp, strOp, shOp, unE, eqpE, eqnE, neqB, ressE, resE, packL, packE, flat1, fcells, fillE, setL, cellsOf_bind, cellsO_own, cellsO_ro, lenE_sl, lenE_nils, lenE_sl0, bound, rep, minE, maxE, List.getElem?_cons_zero, List.getElem?_cons_succ, get_lt, set_lt, get_len, get_len_add, set_len, set_len_add, List.append_assoc, List.cons_append, List.nil_append, -getElem?_pos, s7_2, ow.len]
  refine WPl.post (fun x fr' h' => x = .exit 0 ∧ fr' = [(1, some (.s (.int .i64 at0))), (5, some (.s w))] ∧ ∃ S, Ow h0.length h' 3 encI w S ∧ S.length = S0.length ∧ ∀ x ∈ S, money x = true) (fun Φ hΦ => ?_) ?_
  · refine WPl.inv2 (fun n fr h' => ∃ (k : Nat) (S : List Int), k ≤ S0.length ∧ n = S0.length - k ∧ Ow h0.length h' 3 encI w S ∧ S.length = S0.length ∧ (∀ x ∈ S.take k, money x = true) ∧
      fr = [(1, some (.s (.int .i64 at0))), (5, some (.s w)), (22, some (.s (.int .i64 S0.length))), (23, some (.s (.int .i64 k)))]) ?_ _ _ _ ⟨0, S0, Nat.zero_le _, rfl, ow, rfl, by simp, rfl⟩
    rintro I hI n fr h' ⟨k, S, hk, rfl, oS, hl, bS, rfl⟩
    refine ⟨by simp [keepF, fget], ?_⟩
    by_cases hlt : k < S0.length
    · have kS : k < S.length := by omega
      obtain ⟨j, i1, rfl, i2, i3⟩ := oS.int_at kS
      have i5 := lt_of_some i2
      have y1 := fun h => within_ok S[k] 200000000001 (by omega) h
      have r1 : 0 ≤ S[k] % 200000000001 ∧ S[k] % 200000000001 < 200000000001 := by omega
      have hget : (S.map (SV.int .i64))[k]? = some (.int .i64 S[k]) := by simp [kS]
      generalize S[k] % 200000000001 = q at y1 r1
      have w1 : IntKind.i64.wrap (q - 100000000000) = q - 100000000000 := wrap_small (by omega) (by omega)
      have w3 : IntKind.i64.wrap ((k : Int) + 1) = ((k + 1 : Nat) : Int) := wrap_small (by omega) (by omega)
      have t2 : k + 1 ≤ S.length := kS
      simp [wpk_skip, wpk_seq, k_cond, wpk_block, wpk_exit, wpk_ret, wpk_loop, k_ops, k_draw0, t_nil, t_cons, KT_eq, KD_eq, wpo_nil, k_cons, k_step, mt_some, mtk_some, KO_eq, KP_eq, K_normal, K_ret, K_exit, KB_normal, KB_ret, KB_exit, KL_normal, KL_ret, KL_exit, k_ret, k_normal, stepE, isCall, calleeE, opE, wantE, odE, odS, odL, odSL, fget, fput, initE, keepF, List.map_cons, List.map_nil, binE, intOp, strOp, shOp, unE, eqpE, eqnE, neqB, ressE, resE, packL, packE, flat1, fcells, fillE, setL, cellsOf_bind, cellsO_own, cellsO_ro, lenE_sl, lenE_nils, lenE_sl0, bound, rep, minE, maxE, List.getElem?_cons_zero, List.getElem?_cons_succ, get_lt, set_lt, get_len, get_len_add, set_len, set_len_add, List.append_assoc, List.cons_append, List.nil_append, -getElem?_pos, l7_0_2, l7_0_1, l7_0, hlt, kS, i2, i5, hget, y1, w1, w3, t2]
      refine ⟨_, by omega, hI _ _ _ ⟨k + 1, S.set k (q - 100000000000), hlt, rfl, i3 _, by simp [hl], ?_, rfl⟩⟩
      intro x hx
      rw [List.take_succ_eq_append_getElem (by simpa using kS), List.take_set_of_le (by omega)] at hx
      rcases List.mem_append.1 hx with hx | hx
      · exact bS x hx
      · simp at hx; subst hx; unfold money; exact decide_eq_true (by omega)
    · obtain rfl : k = S0.length := by omega
      rw [List.take_of_length_le (by omega)] at bS
      simp [wpk_skip, wpk_seq, k_cond, wpk_block, wpk_exit, wpk_ret, wpk_loop, k_ops, k_draw0, t_nil, t_cons, KT_eq, KD_eq, wpo_nil, k_cons, k_step, mt_some, mtk_some, KO_eq, KP_eq, K_normal, K_ret, K_exit, KB_normal, KB_ret, KB_exit, KL_normal, KL_ret, KL_exit, k_ret, k_normal, stepE, isCall, calleeE, opE, wantE, odE, odS, odL, odSL, fget, fput, initE, keepF, List.map_cons, List.map_nil, binE, intOp, strOp, shOp, unE, eqpE, eqnE, neqB, ressE, resE, packL, packE, flat1, fcells, fillE, setL, cellsOf_bind, cellsO_own, cellsO_ro, lenE_sl, lenE_nils, lenE_sl0, bound, rep, minE, maxE, List.getElem?_cons_zero, List.getElem?_cons_succ, get_lt, set_lt, get_len, get_len_add, set_len, set_len_add, List.append_assoc, List.cons_append, List.nil_append, -getElem?_pos, l7_0_2, l7_0_1, l7_0, hlt]
      exact hΦ _ _ _ ⟨rfl, rfl, S, oS, hl, bS⟩
  · rintro x fr' h2 ⟨rfl, rfl, S, oS, hl, bS⟩
    have rS := oS.rd encI_len (z := 1)
    have s1 := sum_ok rS (by omega)
    have hall := sumGo_all S 0 bS
    simp [wpk_skip, wpk_seq, k_cond, wpk_block, wpk_exit, wpk_ret, wpk_loop, k_ops, k_draw0, t_nil, t_cons, KT_eq, KD_eq, wpo_nil, k_cons, k_step, mt_some, mtk_some, KO_eq, KP_eq, K_normal, K_ret, K_exit, KB_normal, KB_ret, KB_exit, KL_normal, KL_ret, KL_exit, k_ret, k_normal, stepE, isCall, calleeE, opE, wantE, odE, odS, odL, odSL, fget, fput, initE, keepF, List.map_cons, List.map_nil, binE, intOp, strOp, shOp, unE, eqpE, eqnE, neqB, ressE, resE, packL, packE, flat1, fcells, fillE, setL, cellsOf_bind, cellsO_own, cellsO_ro, lenE_sl, lenE_nils, lenE_sl0, bound, rep, minE, maxE, List.getElem?_cons_zero, List.getElem?_cons_succ, get_lt, set_lt, get_len, get_len_add, set_len, set_len_add, List.append_assoc, List.cons_append, List.nil_append, -getElem?_pos, s7_3, s7_4, s7_5, s1, rS.len]
    refine WPl.post (fun x fr' h' => x = .exit 2 ∧ Gr h2 h' ∧ ∃ v9, fr' = [(1, some (.s (.int .i64 at0))), (5, some (.s w)), (7, some (.s (.int .i64 (sumGo 0 S).1))), (8, some (.s (.bool (sumGo 0 S).2))), (9, some (.s v9))] ∧ Rd h' 3 1 encI v9 S.reverse) (fun Φ hΦ => ?_) ?_
    · refine WPl.inv2 (fun n fr h' => Gr h2 h' ∧ ∃ (k : Nat) (v9 : SV), k ≤ S.length ∧ n = S.length - k ∧ Ow h2.length h' 3 encI v9 (S.reverse.take k) ∧
        fr = [(1, some (.s (.int .i64 at0))), (5, some (.s w)), (7, some (.s (.int .i64 (sumGo 0 S).1))), (8, some (.s (.bool (sumGo 0 S).2))), (9, some (.s v9)), (42, some (.s (.int .i64 S.length))), (43, some (.s (.int .i64 k)))]) ?_ _ _ _ ⟨Gr.refl _, 0, .nils, Nat.zero_le _, rfl, Ow.nil _ _, rfl⟩
      rintro I hI n fr h' ⟨gr, k, v9, hk, rfl, o9, rfl⟩
      refine ⟨by simp [keepF, fget], ?_⟩
      have rS' := (rS.gr gr).len
      by_cases hlt : k < S.length
      · have kS : S.length - 1 - k < S.length := by omega
        obtain ⟨j, p, o, ob, vs, rfl, q2, q3, q4⟩ := (rS.gr gr).int kS
        have q5 := lt_of_some q2
        have w1 : IntKind.i64.wrap ((S.length : Int) - 1) = (S.length : Int) - 1 := wrap_small (by omega) (by omega)
        have w2 : IntKind.i64.wrap ((S.length : Int) - 1 - k) = ((S.length - 1 - k : Nat) : Int) := by rw [wrap_small (by omega) (by omega)]; omega
        have w3 : IntKind.i64.wrap ((k : Int) + 1) = ((k + 1 : Nat) : Int) := wrap_small (by omega) (by omega)
        have hrev : S.reverse.take (k + 1) = S.reverse.take k ++ [S[S.length - 1 - k]] := by
          rw [List.take_succ_eq_append_getElem (by simpa using hlt), List.getElem_reverse]
        have hlen : (S.reverse.take k).length = k := by simp; omega
        have hA := o9.app1 (y := 8) encI_len (by omega)
        generalize S[S.length - 1 - k] = x at *
        obtain ⟨f1, f2⟩ := Ow.step gr o9 x [LO.own 3 [.int .i64 x]] (n := (S.reverse.take k).length + 1) (cs := [.int .i64 x]) (m := 1) rfl rfl rfl
        rw [← hrev] at f2
        generalize hm : S.length - 1 - k = m at *
        have hml : (m : Int) < S.length := by omega
        generalize S.reverse.take k = A at *
        simp [wpk_skip, wpk_seq, k_cond, wpk_block, wpk_exit, wpk_ret, wpk_loop, k_ops, k_draw0, t_nil, t_cons, KT_eq, KD_eq, wpo_nil, k_cons, k_step, mt_some, mtk_some, KO_eq, KP_eq, K_normal, K_ret, K_exit, KB_normal, KB_ret, KB_exit, KL_normal, KL_ret, KL_exit, k_ret, k_normal, stepE, isCall, calleeE, opE, wantE, odE, odS, odL, odSL, fget, fput, initE, keepF, List.map_cons, List.map_nil, binE, intOp, strOp, shOp, unE, eqpE, eqnE, neqB, ressE, resE, packL, packE, flat1, fcells, fillE, setL, cellsOf_bind, cellsO_own, cellsO_ro, lenE_sl, lenE_nils, lenE_sl0, bound, rep, minE, maxE, List.getElem?_cons_zero, List.getElem?_cons_succ, get_lt, set_lt, get_len, get_len_add, set_len, set_len_add, List.append_assoc, List.cons_append, List.nil_append, -getElem?_pos, l7_1_2, l7_1_1, l7_1, hlt, rS', w1, w2, w3, hml, kS, q2, q3, q4, q5, elems, hA]
        exact ⟨_, by omega, hI _ _ _ ⟨f1, k + 1, _, hlt, rfl, f2, rfl⟩⟩
      · obtain rfl : k = S.length := by omega
        rw [List.take_of_length_le (by simp)] at o9
        simp [wpk_skip, wpk_seq, k_cond, wpk_block, wpk_exit, wpk_ret, wpk_loop, k_ops, k_draw0, t_nil, t_cons, KT_eq, KD_eq, wpo_nil, k_cons, k_step, mt_some, mtk_some, KO_eq, KP_eq, K_normal, K_ret, K_exit, KB_normal, KB_ret, KB_exit, KL_normal, KL_ret, KL_exit, k_ret, k_normal, stepE, isCall, calleeE, opE, wantE, odE, odS, odL, odSL, fget, fput, initE, keepF, List.map_cons, List.map_nil, binE, intOp, strOp, shOp, unE, eqpE, eqnE, neqB, ressE, resE, packL, packE, flat1, fcells, fillE, setL, cellsOf_bind, cellsO_own, cellsO_ro, lenE_sl, lenE_nils, lenE_sl0, bound, rep, minE, maxE, List.getElem?_cons_zero, List.getElem?_cons_succ, get_lt, set_lt, get_len, get_len_add, set_len, set_len_add, List.append_assoc, List.cons_append, List.nil_append, -getElem?_pos, l7_1_2, l7_1_1, l7_1, hlt]
        exact hΦ _ _ _ ⟨rfl, gr, v9, rfl, o9.rd encI_len⟩
    · rintro x fr' h3 ⟨rfl, g3, v9, rfl, r9⟩
      have s2 := sum_ok r9 (by simp; omega)
      have e2 : sumGo 0 S.reverse = sumGo 0 S := by
        rw [sumGo_all _ _ (fun x hx => bS x (List.mem_reverse.1 hx)), hall, sum_reverse]
      rw [e2] at s2
      have o4 : (h3 ++ [LO.own 3 [.int .i64 100000000000, .int .i64 100000000000, .int .i64 (-100000000000)]])[h3.length]? = some (.own 3 (([100000000000, 100000000000, -100000000000] : List Int).flatMap encI)) := get_len
      have s3 := sum_ok (Rd.lit encI_len o4 (p := 0)) (by decide)
      have e3 : sumGo 0 [100000000000, 100000000000, -100000000000] = (100000000000, true) := by decide
      rw [e3] at s3
      simp only [List.length_cons, List.length_nil] at s3
      have o5 : (h3 ++ [LO.own 3 [.int .i64 100000000000, .int .i64 100000000000, .int .i64 (-100000000000)], LO.own 3 [.int .i64 100000000000, .int .i64 1]])[h3.length + 1]? = some (.own 3 (([100000000000, 1] : List Int).flatMap encI)) := by rw [get_len_add]; rfl
      have s4 := sum_ok (Rd.lit encI_len o5 (p := 0)) (by decide)
      have e4 : sumGo 0 [100000000000, 1] = (0, false) := by decide
      rw [e4] at s4
      simp only [List.length_cons, List.length_nil] at s4
      have n1 : ((sumGo 0 S).1 != (sumGo 0 S).1) = false := by simp
      have g5 := g3.app [LO.own 3 [.int .i64 100000000000, .int .i64 100000000000, .int .i64 (-100000000000)], LO.own 3 [.int .i64 100000000000, .int .i64 1]]
      simp [wpk_skip, wpk_seq, k_cond, wpk_block, wpk_exit, wpk_ret, wpk_loop, k_ops, k_draw0, t_nil, t_cons, KT_eq, KD_eq, wpo_nil, k_cons, k_step, mt_some, mtk_some, KO_eq, KP_eq, K_normal, K_ret, K_exit, KB_normal, KB_ret, KB_exit, KL_normal, KL_ret, KL_exit, k_ret, k_normal, stepE, isCall, calleeE, opE, wantE, odE, odS, odL, odSL, fget, fput, initE, keepF, List.map_cons, List.map_nil, binE, intOp, strOp, shOp, unE, eqpE, eqnE, neqB, ressE, resE, packL, packE, flat1, fcells, fillE, setL, cellsOf_bind, cellsO_own, cellsO_ro, lenE_sl, lenE_nils, lenE_sl0, bound, rep, minE, maxE, List.getElem?_cons_zero, List.getElem?_cons_succ, get_lt, set_lt, get_len, get_len_add, set_len, set_len_add, List.append_assoc, List.cons_append, List.nil_append, -getElem?_pos, s7_6, s7_7, s7_8, s7_9, s2, s3, s4, n1]
      have oS5 := oS.gr g5
      generalize h3 ++ [LO.own 3 [.int .i64 100000000000, .int .i64 100000000000, .int .i64 (-100000000000)], LO.own 3 [.int .i64 100000000000, .int .i64 1]] = H5 at *
      have rl5 := oS5.len
      by_cases hz : S.length = 0
      · obtain rfl : S = [] := List.eq_nil_of_length_eq_zero hz
        have e5 : sumGo 0 [] = (0, true) := by decide
        rw [e5] at *
        simp only [List.length_nil] at rl5
        simp [wpk_skip, wpk_seq, k_cond, wpk_block, wpk_exit, wpk_ret, wpk_loop, k_ops, k_draw0, t_nil, t_cons, KT_eq, KD_eq, wpo_nil, k_cons, k_step, mt_some, mtk_some, KO_eq, KP_eq, K_normal, K_ret, K_exit, KB_normal, KB_ret, KB_exit, KL_normal, KL_ret, KL_exit, k_ret, k_normal, stepE, isCall, calleeE, opE, wantE, odE, odS, odL, odSL, fget, fput, initE, keepF, List.map_cons, List.map_nil, binE, intOp, strOp, shOp, unE, eqpE, eqnE, neqB, ressE, resE, packL, packE, flat1, fcells, fillE, setL, cellsOf_bind, cellsO_own, cellsO_ro, lenE_sl, lenE_nils, lenE_sl0, bound, rep, minE, maxE, List.getElem?_cons_zero, List.getElem?_cons_succ, get_lt, set_lt, get_len, get_len_add, set_len, set_len_add, List.append_assoc, List.cons_append, List.nil_append, -getElem?_pos, s7_10, rl5, wakes_ok]
        exact hΨ _ _ rfl
      · have hz' : ((S.length : Int) == 0) = false := by simpa using hz
        have y1 := fun h => within_ok at0 S.length (by omega) h
        have r1 := Int.emod_nonneg at0 (show (S.length : Int) ≠ 0 by omega)
        have r2 := Int.emod_lt_of_pos at0 (show (0 : Int) < S.length by omega)
        generalize at0 % (S.length : Int) = q at y1 r1 r2
        have kq : q.toNat < S.length := by omega
        obtain ⟨j, i1, rfl, i2, i3⟩ := oS5.int_at kq
        have i5 := lt_of_some i2
        have t2 : q.toNat + 1 ≤ S.length := kq
        have o6 := i3 100000000001
        have s6 := sum_ok (o6.rd encI_len) (by simp; omega)
        have e6 : sumGo 0 (S.set q.toNat 100000000001) = (0, false) := sumGo_bad _ _ 100000000001 (List.mem_iff_getElem.2 ⟨q.toNat, by simpa using kq, by simp⟩) (by decide)
        rw [e6] at s6
        have hz'' : ¬ S = [] := fun e => hz (by rw [e]; rfl)
        simp [wpk_skip, wpk_seq, k_cond, wpk_block, wpk_exit, wpk_ret, wpk_loop, k_ops, k_draw0, t_nil, t_cons, KT_eq, KD_eq, wpo_nil, k_cons, k_step, mt_some, mtk_some, KO_eq, KP_eq, K_normal, K_ret, K_exit, KB_normal, KB_ret, KB_exit, KL_normal, KL_ret, KL_exit, k_ret, k_normal, stepE, isCall, calleeE, opE, wantE, odE, odS, odL, odSL, fget, fput, initE, keepF, List.map_cons, List.map_nil, binE, intOp, strOp, shOp, unE, eqpE, eqnE, neqB, ressE, resE, packL, packE, flat1, fcells, fillE, setL, cellsOf_bind, cellsO_own, cellsO_ro, lenE_sl, lenE_nils, lenE_sl0, bound, rep, minE, maxE, List.getElem?_cons_zero, List.getElem?_cons_succ, get_lt, set_lt, get_len, get_len_add, set_len, set_len_add, List.append_assoc, List.cons_append, List.nil_append, -getElem?_pos, s7_10, s7_11, s7_12, s7_13, lenE_sl, hz', hz'', y1, r1, r2, i2, i5, t2, s6, wakes_ok]
        exact hΨ _ _ rfl
end Go.Proofs.Ytalelfjjigfpeaa.Ev.CQ
