/- SplitEven on the small machine. -/
import Derived.Test.YtejoijjmlglhfaaSpM
set_option linter.unusedSimpArgs false
set_option linter.unusedVariables false
namespace Go.Proofs.Ytejoijjmlglhfaa.Ev.CS
open Go

set_option maxRecDepth 20000 in
set_option maxHeartbeats 8000000 in
theorem splitEven_ok {h0 : LH} {av : SV} {zs : List Int} (n0 k0 t0 : Int) (ha : IntA h0 3 av zs) : ∃ h', callX C 3 [.s (.int .i64 n0), .s (.int .i64 k0), .s (.int .i64 t0), .s av] h0 = some (.s (.bool true), h') ∧ True := by
  suffices w : WPc C 3 [.s (.int .i64 n0), .s (.int .i64 k0), .s (.int .i64 t0), .s av] h0 fun u _ => u = .s (.bool true) by
    obtain ⟨v, h', e, rfl⟩ := w
    exact ⟨h', e, trivial⟩
  refine WPc.post fun Ψ hΨ => ?_
  refine WPc.intro (e := e3) rfl (by simp [e3]) ?_
  show WPk C b3 _ _ (KR [.tmp 8] _)
  have y1 := fun h => within_ok n0 100000 (by omega) h
  have y2 := fun h => within_ok k0 16 (by omega) h
  have y3 := fun h => within_ok t0 900 (by omega) h
  have b1 : 0 ≤ n0 % 100000 ∧ n0 % 100000 < 100000 := by omega
  have bt3 : 0 ≤ t0 % 900 ∧ t0 % 900 < 900 := by omega
  obtain ⟨k, hk⟩ : ∃ k : Nat, k0 % 16 = k := ⟨(k0 % 16).toNat, by omega⟩
  have b2 : k < 16 := by omega
  rw [hk] at y2
  generalize n0 % 100000 = n at *
  generalize t0 % 900 = t1 at *
  have w2 : IntKind.i64.wrap (1 + (k : Int)) = ((k + 1 : Nat) : Int) := by rw [wrap_small (by omega) (by omega)]; omega
  have w3 : IntKind.i64.wrap (1 + t1) = t1 + 1 := by rw [wrap_small (by omega) (by omega)]; omega
  obtain ⟨t, ht⟩ : ∃ t, t = t1 + 1 := ⟨_, rfl⟩
  rw [← ht] at w3
  obtain ⟨K, hK⟩ : ∃ K : Nat, K = k + 1 := ⟨_, rfl⟩
  rw [← hK] at w2
  have tb : 0 < t ∧ t ≤ 900 := by omega
  have hKb : 0 < K ∧ K ≤ 16 := by omega
  have b8 : K * 8 ≤ 140737488355328 := by omega
  have hrep : rep K [SV.int .i64 0] = (List.replicate K (0 : Int)).map (.int .i64) := by
    clear hKb hK w2 b8
    induction K with
    | zero => rfl
    | succ m ih => rw [List.replicate_succ, List.map_cons, ← ih]; rfl
  simp [wpk_skip, wpk_seq, k_cond, wpk_block, wpk_exit, wpk_ret, wpk_loop, k_ops, k_draw0, t_nil, t_cons, KT_eq, KD_eq, wpo_nil, k_cons, k_step, mt_some, mtk_some, KO_eq, KP_eq, K_normal, K_ret, K_exit, KB_normal, KB_ret, KB_exit, KL_normal, KL_ret, KL_exit, k_ret, k_normal, stepE, isCall, calleeE, opE, wantE, odE, odS, odL, odSL, fget, fput, initE, keepF, List.map_cons, List.map_nil, binE, intOp, strOp, shOp, unE, eqpE, eqnE, neqB, ressE, resE, packL, packE, flat1, fcells, fillE, setL, cellsOf_bind, cellsO_own, cellsO_ro, lenE_sl, lenE_nils, lenE_sl0, bound, rep, minE, maxE, List.getElem?_cons_zero, List.getElem?_cons_succ, get_lt, set_lt, get_len, get_len_add, set_len, set_len_add, List.append_assoc, List.cons_append, List.nil_append, -getElem?_pos, b3, s3_1, s3_2, s3_3, y1, y2, y3, w2, w3, b8, hrep]
  refine WPl.post (fun x fr' h' => x = .exit 0 ∧ fr' = [(0, some (.s (.int .i64 n))), (1, some (.s (.int .i64 K))), (2, some (.s (.int .i64 t))), (3, some (.s av)), (9, some (.s (.sl h0.length 0 0 K)))] ∧ Gr h0 h' ∧ Ow h0.length h' 3 encI (.sl h0.length 0 0 K) (List.replicate K 7)) (fun Φ hΦ => ?_) ?_
  · refine WPl.inv2 (fun m fr h' => ∃ (i : Nat) (W : List Int), i ≤ K ∧ m = K - i ∧ Gr h0 h' ∧ Ow h0.length h' 3 encI (.sl h0.length 0 0 K) W ∧ W.length = K ∧ W.take i = List.replicate i 7 ∧
      fr = [(0, some (.s (.int .i64 n))), (1, some (.s (.int .i64 K))), (2, some (.s (.int .i64 t))), (3, some (.s av)), (9, some (.s (.sl h0.length 0 0 K))), (33, some (.s (.int .i64 K))), (34, some (.s (.int .i64 i)))]) ?_ _ _ _ ⟨0, List.replicate K 0, Nat.zero_le _, rfl, Gr.self _ _, .inr ⟨h0.length, Nat.le_refl _, by simp, by rw [get_len, encI_flat]; simp⟩, by simp, rfl, by simp⟩
    rintro I hI m fr h' ⟨i, W, hi, rfl, gr, oW, lW, tW, rfl⟩
    refine ⟨by simp [keepF, fget], ?_⟩
    by_cases hlt : i < K
    · have kS : i < W.length := by omega
      obtain ⟨j, i1, ej, i2, i3⟩ := oW.int_at kS
      obtain rfl := (SV.sl.inj ej).1
      have i5 := lt_of_some i2
      have w4 : IntKind.i64.wrap ((i : Int) + 1) = ((i + 1 : Nat) : Int) := wrap_small (by omega) (by omega)
      have t2 : i + 1 ≤ W.length := kS
      simp [wpk_skip, wpk_seq, k_cond, wpk_block, wpk_exit, wpk_ret, wpk_loop, k_ops, k_draw0, t_nil, t_cons, KT_eq, KD_eq, wpo_nil, k_cons, k_step, mt_some, mtk_some, KO_eq, KP_eq, K_normal, K_ret, K_exit, KB_normal, KB_ret, KB_exit, KL_normal, KL_ret, KL_exit, k_ret, k_normal, stepE, isCall, calleeE, opE, wantE, odE, odS, odL, odSL, fget, fput, initE, keepF, List.map_cons, List.map_nil, binE, intOp, strOp, shOp, unE, eqpE, eqnE, neqB, ressE, resE, packL, packE, flat1, fcells, fillE, setL, cellsOf_bind, cellsO_own, cellsO_ro, lenE_sl, lenE_nils, lenE_sl0, bound, rep, minE, maxE, List.getElem?_cons_zero, List.getElem?_cons_succ, get_lt, set_lt, get_len, get_len_add, set_len, set_len_add, List.append_assoc, List.cons_append, List.nil_append, -getElem?_pos, l3_0_2, l3_0_1, l3_0, hlt, kS, i2, i5, w4, t2]
      refine ⟨_, by omega, hI _ _ _ ⟨i + 1, W.set i 7, hlt, rfl, gr.set _ i1, i3 _, by simpa using lW, ?_, by simp⟩⟩
      rw [List.take_succ_eq_append_getElem (by simpa using kS), List.take_set_of_le (by omega), tW, List.replicate_succ']; simp
    · obtain rfl : i = K := by omega
      rw [List.take_of_length_le (by omega)] at tW
      subst tW
      simp [wpk_skip, wpk_seq, k_cond, wpk_block, wpk_exit, wpk_ret, wpk_loop, k_ops, k_draw0, t_nil, t_cons, KT_eq, KD_eq, wpo_nil, k_cons, k_step, mt_some, mtk_some, KO_eq, KP_eq, K_normal, K_ret, K_exit, KB_normal, KB_ret, KB_exit, KL_normal, KL_ret, KL_exit, k_ret, k_normal, stepE, isCall, calleeE, opE, wantE, odE, odS, odL, odSL, fget, fput, initE, keepF, List.map_cons, List.map_nil, binE, intOp, strOp, shOp, unE, eqpE, eqnE, neqB, ressE, resE, packL, packE, flat1, fcells, fillE, setL, cellsOf_bind, cellsO_own, cellsO_ro, lenE_sl, lenE_nils, lenE_sl0, bound, rep, minE, maxE, List.getElem?_cons_zero, List.getElem?_cons_succ, get_lt, set_lt, get_len, get_len_add, set_len, set_len_add, List.append_assoc, List.cons_append, List.nil_append, -getElem?_pos, l3_0_2, l3_0_1, l3_0, hlt]
      exact hΦ _ _ _ ⟨rfl, rfl, gr, oW⟩
  · rintro x fr' h1 ⟨rfl, rfl, g1, o9⟩
    have sK : (List.replicate K (7 : Int)).sum = K * 7 := sum_replicate K 7
    have wK : (List.replicate K (7 : Int)).all wR = true := List.all_eq_true.2 fun x hx => by rw [List.eq_of_mem_replicate hx]; rfl
    have lK : (List.replicate K (7 : Int)).length = K := List.length_replicate
    have ok1 : splitOk n (List.replicate K 7) = true := by
      unfold splitOk rightF
      rw [if_pos wK, sK, lK]
      simp only [Bool.and_eq_true, decide_eq_true_eq]
      omega
    have hF1 : splitF n (List.replicate K 7) = splitP n (List.replicate K 7) := by unfold splitF; rw [ok1]; rfl
    simp [wpk_skip, wpk_seq, k_cond, wpk_block, wpk_exit, wpk_ret, wpk_loop, k_ops, k_draw0, t_nil, t_cons, KT_eq, KD_eq, wpo_nil, k_cons, k_step, mt_some, mtk_some, KO_eq, KP_eq, K_normal, K_ret, K_exit, KB_normal, KB_ret, KB_exit, KL_normal, KL_ret, KL_exit, k_ret, k_normal, stepE, isCall, calleeE, opE, wantE, odE, odS, odL, odSL, fget, fput, initE, keepF, List.map_cons, List.map_nil, binE, intOp, strOp, shOp, unE, eqpE, eqnE, neqB, ressE, resE, packL, packE, flat1, fcells, fillE, setL, cellsOf_bind, cellsO_own, cellsO_ro, lenE_sl, lenE_nils, lenE_sl0, bound, rep, minE, maxE, List.getElem?_cons_zero, List.getElem?_cons_succ, get_lt, set_lt, get_len, get_len_add, set_len, set_len_add, List.append_assoc, List.cons_append, List.nil_append, -getElem?_pos, s3_4]
    refine WPc.go (split_ok (o9.rd encI_len) (by omega) n) ?_
    rintro _ h2 ⟨g2, a, rfl, oa⟩
    rw [ok1]
    rw [hF1] at oa
    have pl := P_len n (List.replicate K 7)
    rw [lK] at pl
    have pe := fun i hi => even_at (n := n) b1.1 (k := K) (i := i) hi
    generalize splitP n (List.replicate K 7) = L at *
    have n1 : ((L.length : Int) != (K : Int)) = false := by simp [pl]
    have la := oa.len
    have ra := oa.rd (z := 1) encI_len
    simp [wpk_skip, wpk_seq, k_cond, wpk_block, wpk_exit, wpk_ret, wpk_loop, k_ops, k_draw0, t_nil, t_cons, KT_eq, KD_eq, wpo_nil, k_cons, k_step, mt_some, mtk_some, KO_eq, KP_eq, K_normal, K_ret, K_exit, KB_normal, KB_ret, KB_exit, KL_normal, KL_ret, KL_exit, k_ret, k_normal, stepE, isCall, calleeE, opE, wantE, odE, odS, odL, odSL, fget, fput, initE, keepF, List.map_cons, List.map_nil, binE, intOp, strOp, shOp, unE, eqpE, eqnE, neqB, ressE, resE, packL, packE, flat1, fcells, fillE, setL, cellsOf_bind, cellsO_own, cellsO_ro, lenE_sl, lenE_nils, lenE_sl0, bound, rep, minE, maxE, List.getElem?_cons_zero, List.getElem?_cons_succ, get_lt, set_lt, get_len, get_len_add, set_len, set_len_add, List.append_assoc, List.cons_append, List.nil_append, -getElem?_pos, s3_5, s3_6, la, n1]
    refine WPl.post (fun x fr' h' => x = .exit 2 ∧ fr' = [(0, some (.s (.int .i64 n))), (2, some (.s (.int .i64 t))), (3, some (.s av))] ∧ h' = h2) (fun Φ hΦ => ?_) ?_
    · refine WPl.inv2 (fun m fr h' => h' = h2 ∧ ∃ (i : Nat), i ≤ L.length ∧ m = L.length - i ∧
        fr = [(0, some (.s (.int .i64 n))), (1, some (.s (.int .i64 K))), (2, some (.s (.int .i64 t))), (3, some (.s av)), (11, some (.s a)), (56, some (.s (.int .i64 L.length))), (57, some (.s (.int .i64 i)))]) ?_ _ _ _ ⟨rfl, 0, Nat.zero_le _, rfl, by simp⟩
      rintro I hI m fr h' ⟨rfl, i, hi, rfl, rfl⟩
      refine ⟨by simp [keepF, fget], ?_⟩
      by_cases hlt : i < L.length
      · obtain ⟨i1, p1, q1, ob1, vs1, rfl, s2, s3, s4⟩ := ra.int hlt
        have e := pe i (by omega)
        rw [getD_at hlt] at e
        have e1 : n.tdiv K = n / K := Int.tdiv_eq_ediv_of_nonneg b1.1
        have e2 : n.tmod K = n % K := Int.tmod_eq_emod_of_nonneg b1.1
        have d0 := Int.ediv_nonneg b1.1 (show (0 : Int) ≤ K by omega)
        have d1 := Int.ediv_le_self (K : Int) b1.1
        have k0 : ¬ (K : Int) = 0 := by omega
        have k0' : ¬ K = 0 := by omega
        have w5 : IntKind.i64.wrap (n / K) = n / K := wrap_small (by omega) (by omega)
        have w6 : IntKind.i64.wrap (n / K + 1) = n / K + 1 := wrap_small (by omega) (by omega)
        have w4 : IntKind.i64.wrap ((i : Int) + 1) = ((i + 1 : Nat) : Int) := wrap_small (by omega) (by omega)
        by_cases c : (i : Int) < n % K
        · rw [if_pos c] at e
          have c3 : (L[i] != n / K + 1) = false := by rw [e]; simp
          simp [wpk_skip, wpk_seq, k_cond, wpk_block, wpk_exit, wpk_ret, wpk_loop, k_ops, k_draw0, t_nil, t_cons, KT_eq, KD_eq, wpo_nil, k_cons, k_step, mt_some, mtk_some, KO_eq, KP_eq, K_normal, K_ret, K_exit, KB_normal, KB_ret, KB_exit, KL_normal, KL_ret, KL_exit, k_ret, k_normal, stepE, isCall, calleeE, opE, wantE, odE, odS, odL, odSL, fget, fput, initE, keepF, List.map_cons, List.map_nil, binE, intOp, strOp, shOp, unE, eqpE, eqnE, neqB, ressE, resE, packL, packE, flat1, fcells, fillE, setL, cellsOf_bind, cellsO_own, cellsO_ro, lenE_sl, lenE_nils, lenE_sl0, bound, rep, minE, maxE, List.getElem?_cons_zero, List.getElem?_cons_succ, get_lt, set_lt, get_len, get_len_add, set_len, set_len_add, List.append_assoc, List.cons_append, List.nil_append, -getElem?_pos, l3_1_2, l3_1_1, l3_1, hlt, s2, s3, s4, e1, e2, k0, k0', w5, w6, w4, c, c3]
          exact ⟨_, by omega, hI _ _ _ ⟨rfl, i + 1, hlt, rfl, by simp⟩⟩
        · rw [if_neg c] at e
          have c3 : (L[i] != n / K) = false := by rw [e]; simp
          simp [wpk_skip, wpk_seq, k_cond, wpk_block, wpk_exit, wpk_ret, wpk_loop, k_ops, k_draw0, t_nil, t_cons, KT_eq, KD_eq, wpo_nil, k_cons, k_step, mt_some, mtk_some, KO_eq, KP_eq, K_normal, K_ret, K_exit, KB_normal, KB_ret, KB_exit, KL_normal, KL_ret, KL_exit, k_ret, k_normal, stepE, isCall, calleeE, opE, wantE, odE, odS, odL, odSL, fget, fput, initE, keepF, List.map_cons, List.map_nil, binE, intOp, strOp, shOp, unE, eqpE, eqnE, neqB, ressE, resE, packL, packE, flat1, fcells, fillE, setL, cellsOf_bind, cellsO_own, cellsO_ro, lenE_sl, lenE_nils, lenE_sl0, bound, rep, minE, maxE, List.getElem?_cons_zero, List.getElem?_cons_succ, get_lt, set_lt, get_len, get_len_add, set_len, set_len_add, List.append_assoc, List.cons_append, List.nil_append, -getElem?_pos, l3_1_2, l3_1_1, l3_1, hlt, s2, s3, s4, e1, e2, k0, k0', w5, w4, c, c3]
          exact ⟨_, by omega, hI _ _ _ ⟨rfl, i + 1, hlt, rfl, by simp⟩⟩
      · simp [wpk_skip, wpk_seq, k_cond, wpk_block, wpk_exit, wpk_ret, wpk_loop, k_ops, k_draw0, t_nil, t_cons, KT_eq, KD_eq, wpo_nil, k_cons, k_step, mt_some, mtk_some, KO_eq, KP_eq, K_normal, K_ret, K_exit, KB_normal, KB_ret, KB_exit, KL_normal, KL_ret, KL_exit, k_ret, k_normal, stepE, isCall, calleeE, opE, wantE, odE, odS, odL, odSL, fget, fput, initE, keepF, List.map_cons, List.map_nil, binE, intOp, strOp, shOp, unE, eqpE, eqnE, neqB, ressE, resE, packL, packE, flat1, fcells, fillE, setL, cellsOf_bind, cellsO_own, cellsO_ro, lenE_sl, lenE_nils, lenE_sl0, bound, rep, minE, maxE, List.getElem?_cons_zero, List.getElem?_cons_succ, get_lt, set_lt, get_len, get_len_add, set_len, set_len_add, List.append_assoc, List.cons_append, List.nil_append, -getElem?_pos, l3_1, l3_1_1, hlt]
        exact hΦ _ _ _ ⟨rfl, rfl, rfl⟩
    · rintro x fr' h3 ⟨rfl, rfl, rfl⟩
      have g3 := g1.trans g2
      obtain ⟨ws, hws⟩ : ∃ ws : List Int, ws = (zs.take 16).map (fun x => x % 1000 + 1) := ⟨_, rfl⟩
      have lw : ws.length = min 16 zs.length := by rw [hws]; simp
      have wb : ∀ x ∈ ws, 1 ≤ x ∧ x ≤ 1000 := by
        intro x hx
        rw [hws] at hx
        obtain ⟨y, _, rfl⟩ := List.mem_map.1 hx
        omega
      simp [wpk_skip, wpk_seq, k_cond, wpk_block, wpk_exit, wpk_ret, wpk_loop, k_ops, k_draw0, t_nil, t_cons, KT_eq, KD_eq, wpo_nil, k_cons, k_step, mt_some, mtk_some, KO_eq, KP_eq, K_normal, K_ret, K_exit, KB_normal, KB_ret, KB_exit, KL_normal, KL_ret, KL_exit, k_ret, k_normal, stepE, isCall, calleeE, opE, wantE, odE, odS, odL, odSL, fget, fput, initE, keepF, List.map_cons, List.map_nil, binE, intOp, strOp, shOp, unE, eqpE, eqnE, neqB, ressE, resE, packL, packE, flat1, fcells, fillE, setL, cellsOf_bind, cellsO_own, cellsO_ro, lenE_sl, lenE_nils, lenE_sl0, bound, rep, minE, maxE, List.getElem?_cons_zero, List.getElem?_cons_succ, get_lt, set_lt, get_len, get_len_add, set_len, set_len_add, List.append_assoc, List.cons_append, List.nil_append, -getElem?_pos, s3_7, s3_8]
      refine WPl.post (fun x fr' h' => x = .exit 4 ∧ ∃ v5 v6, fr' = [(0, some (.s (.int .i64 n))), (15, some (.s v5)), (16, some (.s v6))] ∧ Ow h3.length h' 3 encI v5 ws ∧ Ow h3.length h' 3 encI v6 (ws.map (fun x => x * t))) (fun Φ hΦ => ?_) ?_
      · refine WPl.inv2 (fun m fr h' => ∃ (k : Nat) (v5 v6 : SV), k ≤ ws.length ∧ m = ws.length - k ∧ Gr h3 h' ∧ Ow h3.length h' 3 encI v5 (ws.take k) ∧ Ow h3.length h' 3 encI v6 ((ws.take k).map (fun x => x * t)) ∧ Apart v5 v6 ∧
          fr = [(0, some (.s (.int .i64 n))), (2, some (.s (.int .i64 t))), (3, some (.s av)), (15, some (.s v5)), (16, some (.s v6)), (17, some (.s (.int .i64 k)))]) ?_ _ _ _ ⟨0, .nils, .nils, Nat.zero_le _, rfl, Gr.refl _, Ow.nil _ _, Ow.nil _ _, Apart.nils _, by simp⟩
        rintro I hI m fr h' ⟨k, v5, v6, hk, rfl, gr, o5, o6, ap, rfl⟩
        refine ⟨by simp [keepF, fget], ?_⟩
        have rz := ha.rd.gr (g3.trans gr)
        have rl := rz.len
        by_cases hlt : k < ws.length
        · have kz : k < zs.length := by omega
          have k16 : k < 16 := by omega
          have k16' : (k : Int) < 16 := by omega
          obtain ⟨i, p, o, ob, vs, rfl, q2, q3, q4⟩ := rz.int kz
          have q5 := lt_of_some q2
          have y2 := fun h => within_ok zs[k] 1000 (by omega) h
          have ew : zs[k] % 1000 + 1 = ws[k] := by subst hws; simp
          have bz : 0 ≤ zs[k] % 1000 ∧ zs[k] % 1000 < 1000 := by omega
          have w1 : IntKind.i64.wrap (1 + zs[k] % 1000) = ws[k] := by rw [wrap_small (by omega) (by omega)]; omega
          have hx := wb _ (List.getElem_mem hlt)
          have lk : (ws.take k).length = k := by simp; omega
          have e5 : ws.take (k + 1) = ws.take k ++ [ws[k]] := List.take_succ_eq_append_getElem hlt
          have e6 : (ws.take (k + 1)).map (fun x => x * t) = (ws.take k).map (fun x => x * t) ++ [ws[k] * t] := by rw [e5, List.map_append]; rfl
          have g0 : ws[k]? = some ws[k] := List.getElem?_eq_getElem hlt
          generalize ws[k] = x at *
          generalize zs[k] % 1000 = z at *
          have m0 : 0 ≤ x * t := Int.mul_nonneg (by omega) (by omega)
          have m1 : x * t ≤ 1000 * 900 := Int.mul_le_mul (by omega) (by omega) (by omega) (by decide)
          have w2 : IntKind.i64.wrap (x * t) = x * t := wrap_small (by omega) (by omega)
          have w3 : IntKind.i64.wrap ((k : Int) + 1) = ((k + 1 : Nat) : Int) := wrap_small (by omega) (by omega)
          have hA := o5.app1 (y := 8) encI_len (by omega) [LO.own 3 [.int .i64 x]] [.int .i64 x]
          obtain ⟨f1, f2⟩ := Ow.step gr o5 x [LO.own 3 [.int .i64 x]] (n := (ws.take k).length + 1) (cs := [.int .i64 x]) (m := 1) rfl rfl rfl
          rw [← e5] at f2
          have g6 := Ow.kill_apart o5 o6 ap [LO.own 3 [.int .i64 x]] [.own 3 ((ws.take k).flatMap encI ++ [.int .i64 x])]
          have ap2 : Apart (.sl (h'.length + 1) 0 0 ((ws.take k).length + 1)) v6 := Ow.apart_new o6 (by omega) _ _ _
          obtain ⟨H1, hH⟩ : ∃ H1, H1 = kill v5 (h' ++ [LO.own 3 [.int .i64 x]]) ++ [.own 3 ((ws.take k).flatMap encI ++ [.int .i64 x])] := ⟨_, rfl⟩
          rw [← hH] at f1 f2 g6 hA
          obtain ⟨j, _, ej, j2, _⟩ := f2.int_at (k := k) (by simp; omega)
          obtain rfl := (SV.sl.inj ej).1
          have j5 := lt_of_some j2
          have hB := g6.app1 (y := 8) encI_len (by simp; omega) [LO.own 3 [.int .i64 (x * t)]] [.int .i64 (x * t)]
          obtain ⟨f3, f4⟩ := Ow.step f1 g6 (x * t) [LO.own 3 [.int .i64 (x * t)]] (n := (ws.take k).length + 1) (cs := [.int .i64 (x * t)]) (m := 1) rfl (by simp) rfl
          rw [← e6] at f4
          have g5 := Ow.kill_apart g6 f2 ap2.symm [LO.own 3 [.int .i64 (x * t)]] [.own 3 (((ws.take k).map (fun x => x * t)).flatMap encI ++ [.int .i64 (x * t)])]
          have ap3 : Apart (.sl (H1.length + 1) 0 0 ((ws.take k).length + 1)) (.sl (h'.length + 1) 0 0 ((ws.take k).length + 1)) := Ow.apart_new f2 (by omega) _ _ _
          have l5 := o5.len
          have l6 := o6.len
          generalize (ws.take k) = A at *
          have t6 : (k : Int) < A.length + 1 := by omega
          have t7 : k < A.length + 1 := by omega
          simp [wpk_skip, wpk_seq, k_cond, wpk_block, wpk_exit, wpk_ret, wpk_loop, k_ops, k_draw0, t_nil, t_cons, KT_eq, KD_eq, wpo_nil, k_cons, k_step, mt_some, mtk_some, KO_eq, KP_eq, K_normal, K_ret, K_exit, KB_normal, KB_ret, KB_exit, KL_normal, KL_ret, KL_exit, k_ret, k_normal, stepE, isCall, calleeE, opE, wantE, odE, odS, odL, odSL, fget, fput, initE, keepF, List.map_cons, List.map_nil, binE, intOp, strOp, shOp, unE, eqpE, eqnE, neqB, ressE, resE, packL, packE, flat1, fcells, fillE, setL, cellsOf_bind, cellsO_own, cellsO_ro, lenE_sl, lenE_nils, lenE_sl0, bound, rep, minE, maxE, List.getElem?_cons_zero, List.getElem?_cons_succ, get_lt, set_lt, get_len, get_len_add, set_len, set_len_add, List.append_assoc, List.cons_append, List.nil_append, -getElem?_pos, l3_2_1, l3_2, rl, kz, k16, k16', q2, q3, q4, q5, y2, elems, l5, l6, hA, j2, g0, t6, t7, hB, w1, w2, w3]
          exact ⟨_, by omega, hI _ _ _ ⟨k + 1, _, _, hlt, rfl, f3, g5, f4, ap3.symm, rfl⟩⟩
        · obtain rfl : k = ws.length := by omega
          rw [List.take_length] at o5 o6
          by_cases c1 : ws.length < zs.length
          · have c2 : ¬ ws.length < 16 := by omega
            have c3 : ¬ (ws.length : Int) < 16 := by omega
            simp [wpk_skip, wpk_seq, k_cond, wpk_block, wpk_exit, wpk_ret, wpk_loop, k_ops, k_draw0, t_nil, t_cons, KT_eq, KD_eq, wpo_nil, k_cons, k_step, mt_some, mtk_some, KO_eq, KP_eq, K_normal, K_ret, K_exit, KB_normal, KB_ret, KB_exit, KL_normal, KL_ret, KL_exit, k_ret, k_normal, stepE, isCall, calleeE, opE, wantE, odE, odS, odL, odSL, fget, fput, initE, keepF, List.map_cons, List.map_nil, binE, intOp, strOp, shOp, unE, eqpE, eqnE, neqB, ressE, resE, packL, packE, flat1, fcells, fillE, setL, cellsOf_bind, cellsO_own, cellsO_ro, lenE_sl, lenE_nils, lenE_sl0, bound, rep, minE, maxE, List.getElem?_cons_zero, List.getElem?_cons_succ, get_lt, set_lt, get_len, get_len_add, set_len, set_len_add, List.append_assoc, List.cons_append, List.nil_append, -getElem?_pos, l3_2_1, l3_2, rl, c1, c2, c3]
            exact hΦ _ _ _ ⟨rfl, v5, v6, rfl, o5, o6⟩
          · simp [wpk_skip, wpk_seq, k_cond, wpk_block, wpk_exit, wpk_ret, wpk_loop, k_ops, k_draw0, t_nil, t_cons, KT_eq, KD_eq, wpo_nil, k_cons, k_step, mt_some, mtk_some, KO_eq, KP_eq, K_normal, K_ret, K_exit, KB_normal, KB_ret, KB_exit, KL_normal, KL_ret, KL_exit, k_ret, k_normal, stepE, isCall, calleeE, opE, wantE, odE, odS, odL, odSL, fget, fput, initE, keepF, List.map_cons, List.map_nil, binE, intOp, strOp, shOp, unE, eqpE, eqnE, neqB, ressE, resE, packL, packE, flat1, fcells, fillE, setL, cellsOf_bind, cellsO_own, cellsO_ro, lenE_sl, lenE_nils, lenE_sl0, bound, rep, minE, maxE, List.getElem?_cons_zero, List.getElem?_cons_succ, get_lt, set_lt, get_len, get_len_add, set_len, set_len_add, List.append_assoc, List.cons_append, List.nil_append, -getElem?_pos, l3_2_1, l3_2, rl, c1]
            exact hΦ _ _ _ ⟨rfl, v5, v6, rfl, o5, o6⟩
      · rintro x fr' h4 ⟨rfl, v5, v6, rfl, o5, o6⟩
        by_cases hz : ws.length = 0
        · have hz' : ((ws.length : Int) == 0) = true := by simp [hz]
          simp [wpk_skip, wpk_seq, k_cond, wpk_block, wpk_exit, wpk_ret, wpk_loop, k_ops, k_draw0, t_nil, t_cons, KT_eq, KD_eq, wpo_nil, k_cons, k_step, mt_some, mtk_some, KO_eq, KP_eq, K_normal, K_ret, K_exit, KB_normal, KB_ret, KB_exit, KL_normal, KL_ret, KL_exit, k_ret, k_normal, stepE, isCall, calleeE, opE, wantE, odE, odS, odL, odSL, fget, fput, initE, keepF, List.map_cons, List.map_nil, binE, intOp, strOp, shOp, unE, eqpE, eqnE, neqB, ressE, resE, packL, packE, flat1, fcells, fillE, setL, cellsOf_bind, cellsO_own, cellsO_ro, lenE_sl, lenE_nils, lenE_sl0, bound, rep, minE, maxE, List.getElem?_cons_zero, List.getElem?_cons_succ, get_lt, set_lt, get_len, get_len_add, set_len, set_len_add, List.append_assoc, List.cons_append, List.nil_append, -getElem?_pos, s3_9, o5.len, hz']
          refine WPc.go (wakes_ok h4) ?_
          rintro _ h5 ⟨g5, rfl⟩
          simp [wpk_skip, wpk_seq, k_cond, wpk_block, wpk_exit, wpk_ret, wpk_loop, k_ops, k_draw0, t_nil, t_cons, KT_eq, KD_eq, wpo_nil, k_cons, k_step, mt_some, mtk_some, KO_eq, KP_eq, K_normal, K_ret, K_exit, KB_normal, KB_ret, KB_exit, KL_normal, KL_ret, KL_exit, k_ret, k_normal, stepE, isCall, calleeE, opE, wantE, odE, odS, odL, odSL, fget, fput, initE, keepF, List.map_cons, List.map_nil, binE, intOp, strOp, shOp, unE, eqpE, eqnE, neqB, ressE, resE, packL, packE, flat1, fcells, fillE, setL, cellsOf_bind, cellsO_own, cellsO_ro, lenE_sl, lenE_nils, lenE_sl0, bound, rep, minE, maxE, List.getElem?_cons_zero, List.getElem?_cons_succ, get_lt, set_lt, get_len, get_len_add, set_len, set_len_add, List.append_assoc, List.cons_append, List.nil_append, -getElem?_pos]
          exact hΨ _ _ rfl
        · have hz' : ((ws.length : Int) == 0) = false := by simpa using hz
          have wall : ws.all wR = true := List.all_eq_true.2 fun x hx => decide_eq_true (by have := wb x hx; omega)
          have mall : (ws.map (fun x => x * t)).all wR = true := by
            refine List.all_eq_true.2 fun x hx => decide_eq_true ?_
            obtain ⟨y, hy, rfl⟩ := List.mem_map.1 hx
            have := wb y hy
            have m0 : 0 ≤ y * t := Int.mul_nonneg (by omega) (by omega)
            have m1 : y * t ≤ 1000 * 900 := Int.mul_le_mul (by omega) (by omega) (by omega) (by decide)
            omega
          have hs : 0 < ws.sum := by
            cases ws with
            | nil => simp at hz
            | cons a w =>
              have := wb a List.mem_cons_self
              have := sum_nonneg (l := w) fun x hx => by have := wb x (List.mem_cons_of_mem _ hx); omega
              rw [List.sum_cons]; omega
          have hm : 0 < (ws.map (fun x => x * t)).sum := by rw [sum_mul]; exact Int.mul_pos hs tb.1
          have lm : (ws.map (fun x => x * t)).length = ws.length := List.length_map _
          have okA : splitOk n ws = true := by
            unfold splitOk rightF
            rw [if_pos wall]
            simp only [Bool.and_eq_true, decide_eq_true_eq]
            omega
          have okB : splitOk n (ws.map (fun x => x * t)) = true := by
            unfold splitOk rightF
            rw [if_pos mall, lm]
            simp only [Bool.and_eq_true, decide_eq_true_eq]
            omega
          have hFA : splitF n ws = splitP n ws := by unfold splitF; rw [okA]; rfl
          have hFB : splitF n (ws.map (fun x => x * t)) = splitP n ws := by unfold splitF; rw [okB, if_pos rfl, P_scale tb.1 ws hs]
          have pl := P_len n ws
          simp [wpk_skip, wpk_seq, k_cond, wpk_block, wpk_exit, wpk_ret, wpk_loop, k_ops, k_draw0, t_nil, t_cons, KT_eq, KD_eq, wpo_nil, k_cons, k_step, mt_some, mtk_some, KO_eq, KP_eq, K_normal, K_ret, K_exit, KB_normal, KB_ret, KB_exit, KL_normal, KL_ret, KL_exit, k_ret, k_normal, stepE, isCall, calleeE, opE, wantE, odE, odS, odL, odSL, fget, fput, initE, keepF, List.map_cons, List.map_nil, binE, intOp, strOp, shOp, unE, eqpE, eqnE, neqB, ressE, resE, packL, packE, flat1, fcells, fillE, setL, cellsOf_bind, cellsO_own, cellsO_ro, lenE_sl, lenE_nils, lenE_sl0, bound, rep, minE, maxE, List.getElem?_cons_zero, List.getElem?_cons_succ, get_lt, set_lt, get_len, get_len_add, set_len, set_len_add, List.append_assoc, List.cons_append, List.nil_append, -getElem?_pos, s3_9, s3_10, o5.len, hz']
          refine WPc.go (split_ok (o5.rd encI_len) (by omega) n) ?_
          rintro _ h5 ⟨g5, a, rfl, oa⟩
          rw [okA]
          rw [hFA] at oa
          simp [wpk_skip, wpk_seq, k_cond, wpk_block, wpk_exit, wpk_ret, wpk_loop, k_ops, k_draw0, t_nil, t_cons, KT_eq, KD_eq, wpo_nil, k_cons, k_step, mt_some, mtk_some, KO_eq, KP_eq, K_normal, K_ret, K_exit, KB_normal, KB_ret, KB_exit, KL_normal, KL_ret, KL_exit, k_ret, k_normal, stepE, isCall, calleeE, opE, wantE, odE, odS, odL, odSL, fget, fput, initE, keepF, List.map_cons, List.map_nil, binE, intOp, strOp, shOp, unE, eqpE, eqnE, neqB, ressE, resE, packL, packE, flat1, fcells, fillE, setL, cellsOf_bind, cellsO_own, cellsO_ro, lenE_sl, lenE_nils, lenE_sl0, bound, rep, minE, maxE, List.getElem?_cons_zero, List.getElem?_cons_succ, get_lt, set_lt, get_len, get_len_add, set_len, set_len_add, List.append_assoc, List.cons_append, List.nil_append, -getElem?_pos, s3_11]
          refine WPc.go (split_ok ((o6.gr g5).rd encI_len) (by omega) n) ?_
          rintro _ h6 ⟨g6, b, rfl, ob⟩
          rw [okB]
          rw [hFB] at ob
          have s1 := same_ok ((oa.gr g6).rd encI_len) (ob.rd encI_len) (by omega)
          simp [wpk_skip, wpk_seq, k_cond, wpk_block, wpk_exit, wpk_ret, wpk_loop, k_ops, k_draw0, t_nil, t_cons, KT_eq, KD_eq, wpo_nil, k_cons, k_step, mt_some, mtk_some, KO_eq, KP_eq, K_normal, K_ret, K_exit, KB_normal, KB_ret, KB_exit, KL_normal, KL_ret, KL_exit, k_ret, k_normal, stepE, isCall, calleeE, opE, wantE, odE, odS, odL, odSL, fget, fput, initE, keepF, List.map_cons, List.map_nil, binE, intOp, strOp, shOp, unE, eqpE, eqnE, neqB, ressE, resE, packL, packE, flat1, fcells, fillE, setL, cellsOf_bind, cellsO_own, cellsO_ro, lenE_sl, lenE_nils, lenE_sl0, bound, rep, minE, maxE, List.getElem?_cons_zero, List.getElem?_cons_succ, get_lt, set_lt, get_len, get_len_add, set_len, set_len_add, List.append_assoc, List.cons_append, List.nil_append, -getElem?_pos, s3_12, s1]
          refine WPc.go (wakes_ok h6) ?_
          rintro _ h7 ⟨g7, rfl⟩
          simp [wpk_skip, wpk_seq, k_cond, wpk_block, wpk_exit, wpk_ret, wpk_loop, k_ops, k_draw0, t_nil, t_cons, KT_eq, KD_eq, wpo_nil, k_cons, k_step, mt_some, mtk_some, KO_eq, KP_eq, K_normal, K_ret, K_exit, KB_normal, KB_ret, KB_exit, KL_normal, KL_ret, KL_exit, k_ret, k_normal, stepE, isCall, calleeE, opE, wantE, odE, odS, odL, odSL, fget, fput, initE, keepF, List.map_cons, List.map_nil, binE, intOp, strOp, shOp, unE, eqpE, eqnE, neqB, ressE, resE, packL, packE, flat1, fcells, fillE, setL, cellsOf_bind, cellsO_own, cellsO_ro, lenE_sl, lenE_nils, lenE_sl0, bound, rep, minE, maxE, List.getElem?_cons_zero, List.getElem?_cons_succ, get_lt, set_lt, get_len, get_len_add, set_len, set_len_add, List.append_assoc, List.cons_append, List.nil_append, -getElem?_pos]
          exact hΨ _ _ rfl
end Go.Proofs.Ytejoijjmlglhfaa.Ev.CS
