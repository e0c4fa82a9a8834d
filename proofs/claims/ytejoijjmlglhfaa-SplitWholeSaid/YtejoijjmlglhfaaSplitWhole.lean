/- SplitWhole on the small machine. -/
import Derived.Test.YtejoijjmlglhfaaSpE
import Derived.Test.YtejoijjmlglhfaaEvRow
set_option linter.unusedSimpArgs false
set_option linter.unusedVariables false
namespace Go.Proofs.Ytejoijjmlglhfaa.Ev.CS
open Go

theorem whole_sum (w : List Int) (t : Int) (hs : 0 < w.sum) : shareF (w.sum * t) w.sum w = w.map (fun x => x * t) := by
  have e : quos (w.sum * t) w.sum w = w.map (fun x => x * t) := by
    unfold quos
    refine List.map_congr_left fun x _ => ?_
    rw [show w.sum * t * x = w.sum * (x * t) by rw [Int.mul_assoc, Int.mul_comm t]]
    exact Int.mul_ediv_cancel_left _ (by omega)
  have e2 : (w.map (fun x => x * t)).sum = w.sum * t := by
    clear e hs
    induction w with
    | nil => simp
    | cons a w ih => rw [List.map_cons, List.sum_cons, List.sum_cons, ih, Int.add_mul]
  rw [share_whole (by rw [e, e2]), e]

set_option maxRecDepth 20000 in
set_option maxHeartbeats 8000000 in
theorem splitWhole_ok {h0 : LH} {av : SV} {zs : List Int} (ha : IntA h0 3 av zs) (times : Int) : ∃ h', callX C 4 [.s av, .s (.int .i64 times)] h0 = some (.s (.bool true), h') ∧ True := by
  suffices w : WPc C 4 [.s av, .s (.int .i64 times)] h0 fun u _ => u = .s (.bool true) by
    obtain ⟨v, h', e, rfl⟩ := w
    exact ⟨h', e, trivial⟩
  refine WPc.post fun Ψ hΨ => ?_
  refine WPc.intro (e := e4) rfl (by simp [e4]) ?_
  show WPk C b4 _ _ (KR [.tmp 4] _)
  have y1 := fun h => within_ok times 100000 (by omega) h
  have bt : 0 ≤ times % 100000 ∧ times % 100000 < 100000 := by omega
  generalize times % 100000 = t at *
  simp [wpk_skip, wpk_seq, k_cond, wpk_block, wpk_exit, wpk_ret, wpk_loop, k_ops, k_draw0, t_nil, t_cons, KT_eq, KD_eq, wpo_nil, k_cons, k_step, mt_some, mtk_some, KO_eq, KP_eq, K_normal, K_ret, K_exit, KB_normal, KB_ret, KB_exit, KL_normal, KL_ret, KL_exit, k_ret, k_normal, stepE, isCall, calleeE, opE, wantE, odE, odS, odL, odSL, fget, fput, initE, keepF, List.map_cons, List.map_nil, binE, intOp, strOp, shOp, unE, eqpE, eqnE, neqB, ressE, resE, packL, packE, flat1, fcells, fillE, setL, cellsOf_bind, cellsO_own, cellsO_ro, lenE_sl, lenE_nils, lenE_sl0, bound, rep, minE, maxE, List.getElem?_cons_zero, List.getElem?_cons_succ, get_lt, set_lt, get_len, get_len_add, set_len, set_len_add, List.append_assoc, List.cons_append, List.nil_append, -getElem?_pos, b4, s4_1, s4_2, s4_3, s4_4, y1]
  obtain ⟨ws, hws⟩ : ∃ ws : List Int, ws = (zs.take 16).map (· % 100) := ⟨_, rfl⟩
  have lw : ws.length = min 16 zs.length := by rw [hws]; simp
  have wb : ∀ x ∈ ws, 0 ≤ x ∧ x < 100 := by
    intro x hx
    rw [hws] at hx
    obtain ⟨y, _, rfl⟩ := List.mem_map.1 hx
    omega
  have wall : ws.all wR = true := List.all_eq_true.2 fun x hx => decide_eq_true (by have := wb x hx; omega)
  refine WPl.post (fun x fr' h' => x = .exit 0 ∧ ∃ v5 v6, fr' = [(1, some (.s (.int .i64 t))), (5, some (.s v5)), (6, some (.s v6)), (7, some (.s (.int .i64 ws.sum)))] ∧ Ow h0.length h' 3 encI v5 ws ∧ Ow h0.length h' 3 encI v6 (ws.map (· * t))) (fun Φ hΦ => ?_) ?_
  · refine WPl.inv2 (fun m fr h' => ∃ (k : Nat) (v5 v6 : SV), k ≤ ws.length ∧ m = ws.length - k ∧ Gr h0 h' ∧ Ow h0.length h' 3 encI v5 (ws.take k) ∧ Ow h0.length h' 3 encI v6 ((ws.take k).map (· * t)) ∧ Apart v5 v6 ∧
      fr = [(0, some (.s av)), (1, some (.s (.int .i64 t))), (5, some (.s v5)), (6, some (.s v6)), (7, some (.s (.int .i64 (ws.take k).sum))), (8, some (.s (.int .i64 k)))]) ?_ _ _ _ ⟨0, .nils, .nils, Nat.zero_le _, rfl, Gr.refl _, Ow.nil _ _, Ow.nil _ _, Apart.nils _, by simp⟩
    rintro I hI m fr h' ⟨k, v5, v6, hk, rfl, gr, o5, o6, ap, rfl⟩
    refine ⟨by simp [keepF, fget], ?_⟩
    have rz := ha.rd.gr gr
    have rl := rz.len
    by_cases hlt : k < ws.length
    · have kz : k < zs.length := by omega
      have k16 : k < 16 := by omega
      have k16' : (k : Int) < 16 := by omega
      obtain ⟨i, p, o, ob, vs, rfl, q2, q3, q4⟩ := rz.int kz
      have q5 := lt_of_some q2
      have y2 := fun h => within_ok zs[k] 100 (by omega) h
      have ew : zs[k] % 100 = ws[k] := by subst hws; simp
      rw [ew] at y2
      have hx := wb _ (List.getElem_mem hlt)
      have es := sum_take_succ ws hlt
      have sb := sum_bound (l := ws.take k) (List.all_eq_true.2 fun x hx => List.all_eq_true.1 wall x (List.mem_of_mem_take hx))
      have lk : (ws.take k).length = k := by simp; omega
      have e5 : ws.take (k + 1) = ws.take k ++ [ws[k]] := List.take_succ_eq_append_getElem hlt
      have e6 : (ws.take (k + 1)).map (· * t) = (ws.take k).map (· * t) ++ [ws[k] * t] := by rw [e5, List.map_append]; rfl
      generalize ws[k] = x at *
      have m0 : 0 ≤ x * t := Int.mul_nonneg hx.1 bt.1
      have m1 : x * t ≤ 100 * 100000 := Int.mul_le_mul (by omega) (by omega) bt.1 (by decide)
      have w1 : IntKind.i64.wrap (x * t) = x * t := wrap_small (by omega) (by omega)
      have w2 : IntKind.i64.wrap ((ws.take k).sum + x) = (ws.take (k + 1)).sum := by rw [es]; exact wrap_small (by omega) (by omega)
      have w3 : IntKind.i64.wrap ((k : Int) + 1) = ((k + 1 : Nat) : Int) := wrap_small (by omega) (by omega)
      have hA := o5.app1 (y := 8) encI_len (by omega) [LO.own 3 [.int .i64 x]] [.int .i64 x]
      obtain ⟨f1, f2⟩ := Ow.step gr o5 x [LO.own 3 [.int .i64 x]] (n := (ws.take k).length + 1) (cs := [.int .i64 x]) (m := 1) rfl rfl rfl
      rw [← e5] at f2
      have g6 := Ow.kill_apart o5 o6 ap [LO.own 3 [.int .i64 x]] [.own 3 ((ws.take k).flatMap encI ++ [.int .i64 x])]
      have ap2 : Apart (.sl (h'.length + 1) 0 0 ((ws.take k).length + 1)) v6 := Ow.apart_new o6 (by omega) _ _ _
      obtain ⟨H1, hH⟩ : ∃ H1, H1 = kill v5 (h' ++ [LO.own 3 [.int .i64 x]]) ++ [.own 3 ((ws.take k).flatMap encI ++ [.int .i64 x])] := ⟨_, rfl⟩
      have hH' : ∀ q, kill v5 (h' ++ [LO.own 3 [.int .i64 x]]) ++ LO.own 3 ((ws.take k).flatMap encI ++ [.int .i64 x]) :: q = H1 ++ q := by intro q; rw [hH]; simp
      rw [← hH] at f1 f2 g6 hA
      have hB := g6.app1 (y := 8) encI_len (by simp; omega) [LO.own 3 [.int .i64 (x * t)]] [.int .i64 (x * t)]
      obtain ⟨f3, f4⟩ := Ow.step f1 g6 (x * t) [LO.own 3 [.int .i64 (x * t)]] (n := (ws.take k).length + 1) (cs := [.int .i64 (x * t)]) (m := 1) rfl (by simp) rfl
      rw [← e6] at f4
      have g5 := Ow.kill_apart g6 f2 ap2.symm [LO.own 3 [.int .i64 (x * t)]] [.own 3 (((ws.take k).map (· * t)).flatMap encI ++ [.int .i64 (x * t)])]
      have ap3 : Apart (.sl (H1.length + 1) 0 0 ((ws.take k).length + 1)) (.sl (h'.length + 1) 0 0 ((ws.take k).length + 1)) := Ow.apart_new f2 (by omega) _ _ _
      have l5 := o5.len
      have l6 := o6.len
      generalize (ws.take k) = A at *
      simp [wpk_skip, wpk_seq, k_cond, wpk_block, wpk_exit, wpk_ret, wpk_loop, k_ops, k_draw0, t_nil, t_cons, KT_eq, KD_eq, wpo_nil, k_cons, k_step, mt_some, mtk_some, KO_eq, KP_eq, K_normal, K_ret, K_exit, KB_normal, KB_ret, KB_exit, KL_normal, KL_ret, KL_exit, k_ret, k_normal, stepE, isCall, calleeE, opE, wantE, odE, odS, odL, odSL, fget, fput, initE, keepF, List.map_cons, List.map_nil, binE, intOp, strOp, shOp, unE, eqpE, eqnE, neqB, ressE, resE, packL, packE, flat1, fcells, fillE, setL, cellsOf_bind, cellsO_own, cellsO_ro, lenE_sl, lenE_nils, lenE_sl0, bound, rep, minE, maxE, List.getElem?_cons_zero, List.getElem?_cons_succ, get_lt, set_lt, get_len, get_len_add, set_len, set_len_add, List.append_assoc, List.cons_append, List.nil_append, -getElem?_pos, l4_0_1, l4_0, rl, kz, k16, k16', q2, q3, q4, q5, y2, elems, l5, l6, hA, hB, w1, w2, w3]
      exact ⟨_, by omega, hI _ _ _ ⟨k + 1, _, _, hlt, rfl, f3, g5, f4, ap3.symm, rfl⟩⟩
    · obtain rfl : k = ws.length := by omega
      rw [List.take_length] at o5 o6
      rw [List.take_length]
      have c : ws.length = zs.length ∨ ws.length = 16 := by omega
      have cc : ¬ (ws.length < zs.length ∧ ws.length < 16) := by omega
      by_cases c1 : ws.length < zs.length
      · have c2 : ¬ ws.length < 16 := by omega
        have c3 : ¬ (ws.length : Int) < 16 := by omega
        simp [wpk_skip, wpk_seq, k_cond, wpk_block, wpk_exit, wpk_ret, wpk_loop, k_ops, k_draw0, t_nil, t_cons, KT_eq, KD_eq, wpo_nil, k_cons, k_step, mt_some, mtk_some, KO_eq, KP_eq, K_normal, K_ret, K_exit, KB_normal, KB_ret, KB_exit, KL_normal, KL_ret, KL_exit, k_ret, k_normal, stepE, isCall, calleeE, opE, wantE, odE, odS, odL, odSL, fget, fput, initE, keepF, List.map_cons, List.map_nil, binE, intOp, strOp, shOp, unE, eqpE, eqnE, neqB, ressE, resE, packL, packE, flat1, fcells, fillE, setL, cellsOf_bind, cellsO_own, cellsO_ro, lenE_sl, lenE_nils, lenE_sl0, bound, rep, minE, maxE, List.getElem?_cons_zero, List.getElem?_cons_succ, get_lt, set_lt, get_len, get_len_add, set_len, set_len_add, List.append_assoc, List.cons_append, List.nil_append, -getElem?_pos, l4_0_1, l4_0, rl, c1, c2, c3]
        exact hΦ _ _ _ ⟨rfl, v5, v6, rfl, o5, o6⟩
      · simp [wpk_skip, wpk_seq, k_cond, wpk_block, wpk_exit, wpk_ret, wpk_loop, k_ops, k_draw0, t_nil, t_cons, KT_eq, KD_eq, wpo_nil, k_cons, k_step, mt_some, mtk_some, KO_eq, KP_eq, K_normal, K_ret, K_exit, KB_normal, KB_ret, KB_exit, KL_normal, KL_ret, KL_exit, k_ret, k_normal, stepE, isCall, calleeE, opE, wantE, odE, odS, odL, odSL, fget, fput, initE, keepF, List.map_cons, List.map_nil, binE, intOp, strOp, shOp, unE, eqpE, eqnE, neqB, ressE, resE, packL, packE, flat1, fcells, fillE, setL, cellsOf_bind, cellsO_own, cellsO_ro, lenE_sl, lenE_nils, lenE_sl0, bound, rep, minE, maxE, List.getElem?_cons_zero, List.getElem?_cons_succ, get_lt, set_lt, get_len, get_len_add, set_len, set_len_add, List.append_assoc, List.cons_append, List.nil_append, -getElem?_pos, l4_0_1, l4_0, rl, c1]
        exact hΦ _ _ _ ⟨rfl, v5, v6, rfl, o5, o6⟩
  · rintro x fr' h1 ⟨rfl, v5, v6, rfl, o5, o6⟩
    have sb := sum_bound wall
    by_cases hz : ws.sum = 0
    · have hz' : (ws.sum == 0) = true := by simp [hz]
      simp [wpk_skip, wpk_seq, k_cond, wpk_block, wpk_exit, wpk_ret, wpk_loop, k_ops, k_draw0, t_nil, t_cons, KT_eq, KD_eq, wpo_nil, k_cons, k_step, mt_some, mtk_some, KO_eq, KP_eq, K_normal, K_ret, K_exit, KB_normal, KB_ret, KB_exit, KL_normal, KL_ret, KL_exit, k_ret, k_normal, stepE, isCall, calleeE, opE, wantE, odE, odS, odL, odSL, fget, fput, initE, keepF, List.map_cons, List.map_nil, binE, intOp, strOp, shOp, unE, eqpE, eqnE, neqB, ressE, resE, packL, packE, flat1, fcells, fillE, setL, cellsOf_bind, cellsO_own, cellsO_ro, lenE_sl, lenE_nils, lenE_sl0, bound, rep, minE, maxE, List.getElem?_cons_zero, List.getElem?_cons_succ, get_lt, set_lt, get_len, get_len_add, set_len, set_len_add, List.append_assoc, List.cons_append, List.nil_append, -getElem?_pos, s4_5, hz']
      refine WPc.go (wakes_ok h1) ?_
      rintro _ h2 ⟨g2, rfl⟩
      simp [wpk_skip, wpk_seq, k_cond, wpk_block, wpk_exit, wpk_ret, wpk_loop, k_ops, k_draw0, t_nil, t_cons, KT_eq, KD_eq, wpo_nil, k_cons, k_step, mt_some, mtk_some, KO_eq, KP_eq, K_normal, K_ret, K_exit, KB_normal, KB_ret, KB_exit, KL_normal, KL_ret, KL_exit, k_ret, k_normal, stepE, isCall, calleeE, opE, wantE, odE, odS, odL, odSL, fget, fput, initE, keepF, List.map_cons, List.map_nil, binE, intOp, strOp, shOp, unE, eqpE, eqnE, neqB, ressE, resE, packL, packE, flat1, fcells, fillE, setL, cellsOf_bind, cellsO_own, cellsO_ro, lenE_sl, lenE_nils, lenE_sl0, bound, rep, minE, maxE, List.getElem?_cons_zero, List.getElem?_cons_succ, get_lt, set_lt, get_len, get_len_add, set_len, set_len_add, List.append_assoc, List.cons_append, List.nil_append, -getElem?_pos]
      exact hΨ _ _ rfl
    · have hz' : (ws.sum == 0) = false := by simpa using hz
      have m0 : 0 ≤ ws.sum * t := Int.mul_nonneg sb.1 bt.1
      have ls : ws.sum ≤ 1600 := by
        have := sum_leB (B := 100) (l := ws) (fun x hx => by have := wb x hx; omega)
        omega
      have m1 : ws.sum * t ≤ 1600 * 100000 := Int.mul_le_mul (by omega) (by omega) bt.1 (by decide)
      have w1 : IntKind.i64.wrap (ws.sum * t) = ws.sum * t := wrap_small (by omega) (by omega)
      have hok : splitOk (ws.sum * t) ws = true := by
        unfold splitOk rightF
        rw [if_pos wall]
        simp only [Bool.and_eq_true, decide_eq_true_eq]
        omega
      have hF : splitF (ws.sum * t) ws = ws.map (· * t) := by
        unfold splitF splitP
        rw [hok, if_pos rfl, if_neg (by omega)]
        exact whole_sum ws t (by omega)
      simp [wpk_skip, wpk_seq, k_cond, wpk_block, wpk_exit, wpk_ret, wpk_loop, k_ops, k_draw0, t_nil, t_cons, KT_eq, KD_eq, wpo_nil, k_cons, k_step, mt_some, mtk_some, KO_eq, KP_eq, K_normal, K_ret, K_exit, KB_normal, KB_ret, KB_exit, KL_normal, KL_ret, KL_exit, k_ret, k_normal, stepE, isCall, calleeE, opE, wantE, odE, odS, odL, odSL, fget, fput, initE, keepF, List.map_cons, List.map_nil, binE, intOp, strOp, shOp, unE, eqpE, eqnE, neqB, ressE, resE, packL, packE, flat1, fcells, fillE, setL, cellsOf_bind, cellsO_own, cellsO_ro, lenE_sl, lenE_nils, lenE_sl0, bound, rep, minE, maxE, List.getElem?_cons_zero, List.getElem?_cons_succ, get_lt, set_lt, get_len, get_len_add, set_len, set_len_add, List.append_assoc, List.cons_append, List.nil_append, -getElem?_pos, s4_5, s4_6, hz', w1]
      refine WPc.go (split_ok (o5.rd encI_len) (by omega) _) ?_
      rintro _ h2 ⟨g2, a, rfl, oa⟩
      rw [hok, hF] at *
      have s1 := same_ok (oa.rd encI_len) ((o6.gr g2).rd encI_len) (by simp; omega)
      simp [wpk_skip, wpk_seq, k_cond, wpk_block, wpk_exit, wpk_ret, wpk_loop, k_ops, k_draw0, t_nil, t_cons, KT_eq, KD_eq, wpo_nil, k_cons, k_step, mt_some, mtk_some, KO_eq, KP_eq, K_normal, K_ret, K_exit, KB_normal, KB_ret, KB_exit, KL_normal, KL_ret, KL_exit, k_ret, k_normal, stepE, isCall, calleeE, opE, wantE, odE, odS, odL, odSL, fget, fput, initE, keepF, List.map_cons, List.map_nil, binE, intOp, strOp, shOp, unE, eqpE, eqnE, neqB, ressE, resE, packL, packE, flat1, fcells, fillE, setL, cellsOf_bind, cellsO_own, cellsO_ro, lenE_sl, lenE_nils, lenE_sl0, bound, rep, minE, maxE, List.getElem?_cons_zero, List.getElem?_cons_succ, get_lt, set_lt, get_len, get_len_add, set_len, set_len_add, List.append_assoc, List.cons_append, List.nil_append, -getElem?_pos, s4_7, s1]
      refine WPc.go (wakes_ok h2) ?_
      rintro _ h3 ⟨g3, rfl⟩
      simp [wpk_skip, wpk_seq, k_cond, wpk_block, wpk_exit, wpk_ret, wpk_loop, k_ops, k_draw0, t_nil, t_cons, KT_eq, KD_eq, wpo_nil, k_cons, k_step, mt_some, mtk_some, KO_eq, KP_eq, K_normal, K_ret, K_exit, KB_normal, KB_ret, KB_exit, KL_normal, KL_ret, KL_exit, k_ret, k_normal, stepE, isCall, calleeE, opE, wantE, odE, odS, odL, odSL, fget, fput, initE, keepF, List.map_cons, List.map_nil, binE, intOp, strOp, shOp, unE, eqpE, eqnE, neqB, ressE, resE, packL, packE, flat1, fcells, fillE, setL, cellsOf_bind, cellsO_own, cellsO_ro, lenE_sl, lenE_nils, lenE_sl0, bound, rep, minE, maxE, List.getElem?_cons_zero, List.getElem?_cons_succ, get_lt, set_lt, get_len, get_len_add, set_len, set_len_add, List.append_assoc, List.cons_append, List.nil_append, -getElem?_pos]
      exact hΨ _ _ rfl
end Go.Proofs.Ytejoijjmlglhfaa.Ev.CS
