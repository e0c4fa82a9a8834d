/- SplitTurns on the small machine. -/
import Derived.Test.YtejoijjmlglhfaaSplitSums
set_option linter.unusedSimpArgs false
set_option linter.unusedVariables false
namespace Go.Proofs.Ytejoijjmlglhfaa.Ev.CS
open Go

theorem P_turn (n : Int) {w : List Int} (hs : 0 < w.sum) {i : Nat} (hi : i < w.length) : (splitP n w).getD i 0 = -(splitP (-n) w).getD i 0 := by
  by_cases c : n = 0
  · subst c
    rw [Int.neg_zero, P_zero hs hi]; rfl
  · unfold splitP
    by_cases d : n < 0
    · rw [if_pos d, if_neg (by omega), getD_neg]
    · have e : - -n = n := by omega
      rw [if_neg d, if_pos (by omega), getD_neg, e]; omega
theorem P_nonneg {n : Int} {w : List Int} (hn : 0 ≤ n) (hw : w.all wR = true) (hs : 0 < w.sum) {i : Nat} (hi : i < w.length) : 0 ≤ (splitP n w).getD i 0 := by
  unfold splitP
  rw [if_neg (by omega)]
  exact share_nonneg hn hw hs hi
theorem P_none {n : Int} {w : List Int} (hn : 0 ≤ n) (hs : 0 < w.sum) {i : Nat} (hi : i < w.length) (h : w[i] = 0) : (splitP n w).getD i 0 = 0 := by
  unfold splitP
  rw [if_neg (by omega)]
  exact share_zero hs hi (by rw [h]; simp)
theorem P_one {n : Int} (hn : 0 ≤ n) : splitP n [77] = [n] := by
  unfold splitP
  have e : quos n [77].sum [77] = [n] := by
    simp [quos]
  rw [if_neg (by omega), share_whole (by rw [e]; simp), e]

set_option maxRecDepth 20000 in
set_option maxHeartbeats 8000000 in
theorem splitTurns_ok {h0 : LH} {av : SV} {zs : List Int} (n0 : Int) (ha : IntA h0 3 av zs) : ∃ h', callX C 7 [.s (.int .i64 n0), .s av] h0 = some (.s (.bool true), h') ∧ True := by
  suffices w : WPc C 7 [.s (.int .i64 n0), .s av] h0 fun u _ => u = .s (.bool true) by
    obtain ⟨v, h', e, rfl⟩ := w
    exact ⟨h', e, trivial⟩
  refine WPc.post fun Ψ hΨ => ?_
  refine WPc.intro (e := e7) rfl (by simp [e7]) ?_
  show WPk C b7 _ _ (KR [.tmp 4] _)
  have y1 := fun h => within_ok n0 100000000001 (by omega) h
  have b1 : 0 ≤ n0 % 100000000001 ∧ n0 % 100000000001 < 100000000001 := by omega
  generalize n0 % 100000000001 = n at *
  simp [wpk_skip, wpk_seq, k_cond, wpk_block, wpk_exit, wpk_ret, wpk_loop, k_ops, k_draw0, t_nil, t_cons, KT_eq, KD_eq, wpo_nil, k_cons, k_step, mt_some, mtk_some, KO_eq, KP_eq, K_normal, K_ret, K_exit, KB_normal, KB_ret, KB_exit, KL_normal, KL_ret, KL_exit, k_ret, k_normal, stepE, isCall, calleeE, opE, wantE, odE, odS, odL, odSL, fget, fput, initE, keepF, List.map_cons, List.map_nil, binE, intOp, strOp, shOp, unE, eqpE, eqnE, neqB, ressE, resE, packL, packE, flat1, fcells, fillE, setL, cellsOf_bind, cellsO_own, cellsO_ro, lenE_sl, lenE_nils, lenE_sl0, bound, rep, minE, maxE, List.getElem?_cons_zero, List.getElem?_cons_succ, get_lt, set_lt, get_len, get_len_add, set_len, set_len_add, List.append_assoc, List.cons_append, List.nil_append, -getElem?_pos, b7, s7_1, s7_2, s7_3, y1]
  obtain ⟨zl, hzl⟩ : ∃ zl : List Int, zl = (zs.take 13).map (· % 50) := ⟨_, rfl⟩
  have lz : zl.length = min 13 zs.length := by rw [hzl]; simp
  have zb : ∀ x ∈ zl, 0 ≤ x ∧ x < 50 := by
    intro x hx
    rw [hzl] at hx
    obtain ⟨y, _, rfl⟩ := List.mem_map.1 hx
    omega
  refine WPl.post (fun x fr' h' => x = .exit 0 ∧ ∃ v5, fr' = [(0, some (.s (.int .i64 n))), (5, some (.s v5))] ∧ Ow h0.length h' 3 encI v5 ([0, 1] ++ zl)) (fun Φ hΦ => ?_) ?_
  · refine WPl.inv2 (fun m fr h' => ∃ (k : Nat) (v5 : SV), k ≤ zl.length ∧ m = zl.length - k ∧ Gr h0 h' ∧ Ow h0.length h' 3 encI v5 ([0, 1] ++ zl.take k) ∧
      fr = [(0, some (.s (.int .i64 n))), (1, some (.s av)), (5, some (.s v5)), (6, some (.s (.int .i64 k)))]) ?_ _ _ _ ⟨0, _, Nat.zero_le _, rfl, Gr.self _ _, .inr ⟨h0.length, Nat.le_refl _, rfl, get_len⟩, by simp⟩
    rintro I hI m fr h' ⟨k, v5, hk, rfl, gr, o5, rfl⟩
    refine ⟨by simp [keepF, fget], ?_⟩
    have rz := ha.rd.gr gr
    have rl := rz.len
    by_cases hlt : k < zl.length
    · have kz : k < zs.length := by omega
      have k13 : k < 13 := by omega
      have k13' : (k : Int) < 13 := by omega
      obtain ⟨i, p, o, ob, vs, rfl, q2, q3, q4⟩ := rz.int kz
      have q5 := lt_of_some q2
      have y2 := fun h => within_ok zs[k] 50 (by omega) h
      have ew : zs[k] % 50 = zl[k] := by subst hzl; simp
      rw [ew] at y2
      have lk : (zl.take k).length = k := by simp; omega
      have e5 : [0, 1] ++ zl.take (k + 1) = ([0, 1] ++ zl.take k) ++ [zl[k]] := by rw [List.take_succ_eq_append_getElem hlt]; simp
      generalize zl[k] = x at *
      have w3 : IntKind.i64.wrap ((k : Int) + 1) = ((k + 1 : Nat) : Int) := wrap_small (by omega) (by omega)
      obtain ⟨A, hA0⟩ : ∃ A, A = [0, 1] ++ zl.take k := ⟨_, rfl⟩
      have lA : A.length = k + 2 := by rw [hA0]; simp; omega
      rw [← hA0] at o5 e5
      have hA := o5.app1 (y := 8) encI_len (by omega) [LO.own 3 [.int .i64 x]] [.int .i64 x]
      obtain ⟨f1, f2⟩ := Ow.step gr o5 x [LO.own 3 [.int .i64 x]] (n := A.length + 1) (cs := [.int .i64 x]) (m := 1) rfl rfl rfl
      rw [← e5] at f2
      have l5 := o5.len
      obtain ⟨H1, hH⟩ : ∃ H1, H1 = kill v5 (h' ++ [LO.own 3 [.int .i64 x]]) ++ [.own 3 (A.flatMap encI ++ [.int .i64 x])] := ⟨_, rfl⟩
      rw [← hH] at f1 f2 hA
      simp [wpk_skip, wpk_seq, k_cond, wpk_block, wpk_exit, wpk_ret, wpk_loop, k_ops, k_draw0, t_nil, t_cons, KT_eq, KD_eq, wpo_nil, k_cons, k_step, mt_some, mtk_some, KO_eq, KP_eq, K_normal, K_ret, K_exit, KB_normal, KB_ret, KB_exit, KL_normal, KL_ret, KL_exit, k_ret, k_normal, stepE, isCall, calleeE, opE, wantE, odE, odS, odL, odSL, fget, fput, initE, keepF, List.map_cons, List.map_nil, binE, intOp, strOp, shOp, unE, eqpE, eqnE, neqB, ressE, resE, packL, packE, flat1, fcells, fillE, setL, cellsOf_bind, cellsO_own, cellsO_ro, lenE_sl, lenE_nils, lenE_sl0, bound, rep, minE, maxE, List.getElem?_cons_zero, List.getElem?_cons_succ, get_lt, set_lt, get_len, get_len_add, set_len, set_len_add, List.append_assoc, List.cons_append, List.nil_append, -getElem?_pos, l7_0_1, l7_0, rl, kz, k13, k13', q2, q3, q4, q5, y2, elems, l5, hA, w3]
      exact ⟨_, by omega, hI _ _ _ ⟨k + 1, _, hlt, rfl, f1, f2, rfl⟩⟩
    · obtain rfl : k = zl.length := by omega
      rw [List.take_length] at o5
      by_cases c1 : zl.length < zs.length
      · have c2 : ¬ zl.length < 13 := by omega
        have c3 : ¬ (zl.length : Int) < 13 := by omega
        simp [wpk_skip, wpk_seq, k_cond, wpk_block, wpk_exit, wpk_ret, wpk_loop, k_ops, k_draw0, t_nil, t_cons, KT_eq, KD_eq, wpo_nil, k_cons, k_step, mt_some, mtk_some, KO_eq, KP_eq, K_normal, K_ret, K_exit, KB_normal, KB_ret, KB_exit, KL_normal, KL_ret, KL_exit, k_ret, k_normal, stepE, isCall, calleeE, opE, wantE, odE, odS, odL, odSL, fget, fput, initE, keepF, List.map_cons, List.map_nil, binE, intOp, strOp, shOp, unE, eqpE, eqnE, neqB, ressE, resE, packL, packE, flat1, fcells, fillE, setL, cellsOf_bind, cellsO_own, cellsO_ro, lenE_sl, lenE_nils, lenE_sl0, bound, rep, minE, maxE, List.getElem?_cons_zero, List.getElem?_cons_succ, get_lt, set_lt, get_len, get_len_add, set_len, set_len_add, List.append_assoc, List.cons_append, List.nil_append, -getElem?_pos, l7_0_1, l7_0, rl, c1, c2, c3]
        exact hΦ _ _ _ ⟨rfl, v5, rfl, o5⟩
      · simp [wpk_skip, wpk_seq, k_cond, wpk_block, wpk_exit, wpk_ret, wpk_loop, k_ops, k_draw0, t_nil, t_cons, KT_eq, KD_eq, wpo_nil, k_cons, k_step, mt_some, mtk_some, KO_eq, KP_eq, K_normal, K_ret, K_exit, KB_normal, KB_ret, KB_exit, KL_normal, KL_ret, KL_exit, k_ret, k_normal, stepE, isCall, calleeE, opE, wantE, odE, odS, odL, odSL, fget, fput, initE, keepF, List.map_cons, List.map_nil, binE, intOp, strOp, shOp, unE, eqpE, eqnE, neqB, ressE, resE, packL, packE, flat1, fcells, fillE, setL, cellsOf_bind, cellsO_own, cellsO_ro, lenE_sl, lenE_nils, lenE_sl0, bound, rep, minE, maxE, List.getElem?_cons_zero, List.getElem?_cons_succ, get_lt, set_lt, get_len, get_len_add, set_len, set_len_add, List.append_assoc, List.cons_append, List.nil_append, -getElem?_pos, l7_0_1, l7_0, rl, c1]
        exact hΦ _ _ _ ⟨rfl, v5, rfl, o5⟩
  · rintro x fr' h1 ⟨rfl, v5, rfl, o5⟩
    obtain ⟨ws, hws⟩ : ∃ ws, ws = [0, 1] ++ zl := ⟨_, rfl⟩
    have lw : ws.length ≤ 15 ∧ 2 ≤ ws.length := by rw [hws]; simp; omega
    have wb : ∀ x ∈ ws, 0 ≤ x ∧ x < 50 := by
      intro x hx
      rw [hws] at hx
      rcases List.mem_append.1 hx with hx | hx
      · simp at hx; omega
      · exact zb x hx
    have wall : ws.all wR = true := List.all_eq_true.2 fun x hx => decide_eq_true (by have := wb x hx; omega)
    have hs : 0 < ws.sum := by
      have := sum_nonneg (l := zl) fun x hx => (zb x hx).1
      rw [hws, List.sum_append]; simp; omega
    rw [← hws] at o5
    have w0 : IntKind.i64.wrap (-n) = -n := wrap_small (by omega) (by omega)
    have ok1 : splitOk n ws = true := by
      unfold splitOk rightF
      rw [if_pos wall]
      simp only [Bool.and_eq_true, decide_eq_true_eq]
      omega
    have ok2 : splitOk (-n) ws = true := by
      unfold splitOk rightF
      rw [if_pos wall]
      simp only [Bool.and_eq_true, decide_eq_true_eq]
      omega
    have ok3 : splitOk n [77] = true := by
      unfold splitOk
      have : (rightF [77]).2 = true := by decide
      rw [this]
      simp only [Bool.true_and, decide_eq_true_eq]
      omega
    have hF1 : splitF n ws = splitP n ws := by unfold splitF; rw [ok1]; rfl
    have hF2 : splitF (-n) ws = splitP (-n) ws := by unfold splitF; rw [ok2]; rfl
    have hF3 : splitF n [77] = [n] := by unfold splitF; rw [ok3, if_pos rfl, P_one b1.1]
    simp [wpk_skip, wpk_seq, k_cond, wpk_block, wpk_exit, wpk_ret, wpk_loop, k_ops, k_draw0, t_nil, t_cons, KT_eq, KD_eq, wpo_nil, k_cons, k_step, mt_some, mtk_some, KO_eq, KP_eq, K_normal, K_ret, K_exit, KB_normal, KB_ret, KB_exit, KL_normal, KL_ret, KL_exit, k_ret, k_normal, stepE, isCall, calleeE, opE, wantE, odE, odS, odL, odSL, fget, fput, initE, keepF, List.map_cons, List.map_nil, binE, intOp, strOp, shOp, unE, eqpE, eqnE, neqB, ressE, resE, packL, packE, flat1, fcells, fillE, setL, cellsOf_bind, cellsO_own, cellsO_ro, lenE_sl, lenE_nils, lenE_sl0, bound, rep, minE, maxE, List.getElem?_cons_zero, List.getElem?_cons_succ, get_lt, set_lt, get_len, get_len_add, set_len, set_len_add, List.append_assoc, List.cons_append, List.nil_append, -getElem?_pos, s7_4]
    refine WPc.go (split_ok (o5.rd encI_len) (by omega) n) ?_
    rintro _ h2 ⟨g2, a, rfl, oa⟩
    rw [ok1]
    rw [hF1] at oa
    simp [wpk_skip, wpk_seq, k_cond, wpk_block, wpk_exit, wpk_ret, wpk_loop, k_ops, k_draw0, t_nil, t_cons, KT_eq, KD_eq, wpo_nil, k_cons, k_step, mt_some, mtk_some, KO_eq, KP_eq, K_normal, K_ret, K_exit, KB_normal, KB_ret, KB_exit, KL_normal, KL_ret, KL_exit, k_ret, k_normal, stepE, isCall, calleeE, opE, wantE, odE, odS, odL, odSL, fget, fput, initE, keepF, List.map_cons, List.map_nil, binE, intOp, strOp, shOp, unE, eqpE, eqnE, neqB, ressE, resE, packL, packE, flat1, fcells, fillE, setL, cellsOf_bind, cellsO_own, cellsO_ro, lenE_sl, lenE_nils, lenE_sl0, bound, rep, minE, maxE, List.getElem?_cons_zero, List.getElem?_cons_succ, get_lt, set_lt, get_len, get_len_add, set_len, set_len_add, List.append_assoc, List.cons_append, List.nil_append, -getElem?_pos, s7_5, w0]
    have o52 := o5.gr g2
    refine WPc.go (split_ok (o52.rd encI_len) (by omega) (-n)) ?_
    rintro _ h3 ⟨g3, b, rfl, ob⟩
    rw [ok2]
    rw [hF2] at ob
    have o4 : (h3 ++ [LO.own 3 [.int .i64 77]])[h3.length]? = some (.own 3 (([77] : List Int).flatMap encI)) := get_len
    have s4 := split_ok (Rd.lit encI_len o4 (p := 0)) (by decide) n
    rw [ok3, hF3] at s4
    simp only [List.length_cons, List.length_nil] at s4
    simp [wpk_skip, wpk_seq, k_cond, wpk_block, wpk_exit, wpk_ret, wpk_loop, k_ops, k_draw0, t_nil, t_cons, KT_eq, KD_eq, wpo_nil, k_cons, k_step, mt_some, mtk_some, KO_eq, KP_eq, K_normal, K_ret, K_exit, KB_normal, KB_ret, KB_exit, KL_normal, KL_ret, KL_exit, k_ret, k_normal, stepE, isCall, calleeE, opE, wantE, odE, odS, odL, odSL, fget, fput, initE, keepF, List.map_cons, List.map_nil, binE, intOp, strOp, shOp, unE, eqpE, eqnE, neqB, ressE, resE, packL, packE, flat1, fcells, fillE, setL, cellsOf_bind, cellsO_own, cellsO_ro, lenE_sl, lenE_nils, lenE_sl0, bound, rep, minE, maxE, List.getElem?_cons_zero, List.getElem?_cons_succ, get_lt, set_lt, get_len, get_len_add, set_len, set_len_add, List.append_assoc, List.cons_append, List.nil_append, -getElem?_pos, s7_6]
    refine WPc.go s4 ?_
    rintro _ h4 ⟨g4, c, rfl, oc⟩
    have G34 := (Gr.self h3 [LO.own 3 [.int .i64 77]]).trans g4
    have o53 := (o52.gr g3).gr G34
    have oa4 := (oa.gr g3).gr G34
    have ob4 := ob.gr G34
    have pl1 := P_len n ws
    have pl2 := P_len (-n) ws
    have pt := fun i hi => P_turn n hs (i := i) hi
    have pn := fun i hi => P_nonneg b1.1 wall hs (i := i) hi
    have pz := fun i hi h => P_none b1.1 hs (i := i) hi h
    have pb := P_bound (n := -n) (by omega) wall hs
    generalize splitP n ws = L at *
    generalize splitP (-n) ws = M at *
    have o5q : (h4 ++ [LO.own 3 [.int .i64 n]])[h4.length]? = some (.own 3 (([n] : List Int).flatMap encI)) := get_len
    have s5 := same_ok ((oc.gr (Gr.self h4 _)).rd encI_len) (Rd.lit encI_len o5q (p := 0)) (by simp)
    simp only [List.length_cons, List.length_nil, decide_true] at s5
    have n1 : ((L.length : Int) != (ws.length : Int)) = false := by simp [pl1]
    have n2 : ((M.length : Int) != (ws.length : Int)) = false := by simp [pl2]
    have g5 := Gr.self h4 [LO.own 3 [SV.int .i64 n]]
    have ra := (oa4.gr g5).rd (z := 1) encI_len
    have rb := (ob4.gr g5).rd (z := 1) encI_len
    have rw5 := (o53.gr g5).rd (z := 1) encI_len
    simp [wpk_skip, wpk_seq, k_cond, wpk_block, wpk_exit, wpk_ret, wpk_loop, k_ops, k_draw0, t_nil, t_cons, KT_eq, KD_eq, wpo_nil, k_cons, k_step, mt_some, mtk_some, KO_eq, KP_eq, K_normal, K_ret, K_exit, KB_normal, KB_ret, KB_exit, KL_normal, KL_ret, KL_exit, k_ret, k_normal, stepE, isCall, calleeE, opE, wantE, odE, odS, odL, odSL, fget, fput, initE, keepF, List.map_cons, List.map_nil, binE, intOp, strOp, shOp, unE, eqpE, eqnE, neqB, ressE, resE, packL, packE, flat1, fcells, fillE, setL, cellsOf_bind, cellsO_own, cellsO_ro, lenE_sl, lenE_nils, lenE_sl0, bound, rep, minE, maxE, List.getElem?_cons_zero, List.getElem?_cons_succ, get_lt, set_lt, get_len, get_len_add, set_len, set_len_add, List.append_assoc, List.cons_append, List.nil_append, -getElem?_pos, s7_7, s7_8, oa4.len, ob4.len, o53.len, n1, n2, s5]
    generalize h4 ++ [LO.own 3 [SV.int .i64 n]] = h5 at *
    refine WPl.post (fun x fr' h' => x = .exit 2 ∧ fr' = [(0, some (.s (.int .i64 n)))] ∧ h' = h5) (fun Φ hΦ => ?_) ?_
    · refine WPl.inv2 (fun m fr h' => h' = h5 ∧ ∃ (k : Nat), k ≤ L.length ∧ m = L.length - k ∧
        fr = [(0, some (.s (.int .i64 n))), (5, some (.s v5)), (7, some (.s a)), (9, some (.s b)), (94, some (.s (.int .i64 L.length))), (95, some (.s (.int .i64 k)))]) ?_ _ _ _ ⟨rfl, 0, Nat.zero_le _, rfl, by simp⟩
      rintro I hI m fr h' ⟨rfl, k, hk, rfl, rfl⟩
      refine ⟨by simp [keepF, fget], ?_⟩
      by_cases hlt : k < L.length
      · have kw : k < ws.length := by omega
        have km : k < M.length := by omega
        obtain ⟨i1, p1, q1, ob1, vs1, rfl, s2, s3, s4⟩ := ra.int hlt
        obtain ⟨i2, p2, q2, ob2, vs2, rfl, t2, t3, t4⟩ := rb.int km
        obtain ⟨i3, p3, q3, ob3, vs3, rfl, u2, u3, u4⟩ := rw5.int kw
        have f1 := pt k kw
        have f2 := pn k kw
        have f3 := pz k kw
        have f4 := pb _ (List.getElem_mem km)
        rw [getD_at hlt] at f1 f2 f3
        rw [getD_at km] at f1
        have w1 : IntKind.i64.wrap (-M[k]) = -M[k] := wrap_small (by omega) (by omega)
        have c1 : (L[k] != -M[k]) = false := by rw [f1]; simp
        have c2 : ¬ L[k] < 0 := by omega
        have w3 : IntKind.i64.wrap ((k : Int) + 1) = ((k + 1 : Nat) : Int) := wrap_small (by omega) (by omega)
        by_cases c : ws[k] = 0
        · have c3 : (ws[k] == 0) = true := by simp [c]
          have c4 : (L[k] != 0) = false := by rw [f3 c]; rfl
          simp [wpk_skip, wpk_seq, k_cond, wpk_block, wpk_exit, wpk_ret, wpk_loop, k_ops, k_draw0, t_nil, t_cons, KT_eq, KD_eq, wpo_nil, k_cons, k_step, mt_some, mtk_some, KO_eq, KP_eq, K_normal, K_ret, K_exit, KB_normal, KB_ret, KB_exit, KL_normal, KL_ret, KL_exit, k_ret, k_normal, stepE, isCall, calleeE, opE, wantE, odE, odS, odL, odSL, fget, fput, initE, keepF, List.map_cons, List.map_nil, binE, intOp, strOp, shOp, unE, eqpE, eqnE, neqB, ressE, resE, packL, packE, flat1, fcells, fillE, setL, cellsOf_bind, cellsO_own, cellsO_ro, lenE_sl, lenE_nils, lenE_sl0, bound, rep, minE, maxE, List.getElem?_cons_zero, List.getElem?_cons_succ, get_lt, set_lt, get_len, get_len_add, set_len, set_len_add, List.append_assoc, List.cons_append, List.nil_append, -getElem?_pos, l7_1, l7_1_1, l7_1_2, hlt, kw, km, s2, s3, s4, t2, t3, t4, u2, u3, u4, w1, c1, c2, c3, c4, w3]
          exact ⟨_, by omega, hI _ _ _ ⟨rfl, k + 1, hlt, rfl, rfl⟩⟩
        · have c3 : (ws[k] == 0) = false := by simp [c]
          simp [wpk_skip, wpk_seq, k_cond, wpk_block, wpk_exit, wpk_ret, wpk_loop, k_ops, k_draw0, t_nil, t_cons, KT_eq, KD_eq, wpo_nil, k_cons, k_step, mt_some, mtk_some, KO_eq, KP_eq, K_normal, K_ret, K_exit, KB_normal, KB_ret, KB_exit, KL_normal, KL_ret, KL_exit, k_ret, k_normal, stepE, isCall, calleeE, opE, wantE, odE, odS, odL, odSL, fget, fput, initE, keepF, List.map_cons, List.map_nil, binE, intOp, strOp, shOp, unE, eqpE, eqnE, neqB, ressE, resE, packL, packE, flat1, fcells, fillE, setL, cellsOf_bind, cellsO_own, cellsO_ro, lenE_sl, lenE_nils, lenE_sl0, bound, rep, minE, maxE, List.getElem?_cons_zero, List.getElem?_cons_succ, get_lt, set_lt, get_len, get_len_add, set_len, set_len_add, List.append_assoc, List.cons_append, List.nil_append, -getElem?_pos, l7_1, l7_1_1, l7_1_2, hlt, kw, km, s2, s3, s4, t2, t3, t4, u2, u3, u4, w1, c1, c2, c3, w3]
          exact ⟨_, by omega, hI _ _ _ ⟨rfl, k + 1, hlt, rfl, rfl⟩⟩
      · simp [wpk_skip, wpk_seq, k_cond, wpk_block, wpk_exit, wpk_ret, wpk_loop, k_ops, k_draw0, t_nil, t_cons, KT_eq, KD_eq, wpo_nil, k_cons, k_step, mt_some, mtk_some, KO_eq, KP_eq, K_normal, K_ret, K_exit, KB_normal, KB_ret, KB_exit, KL_normal, KL_ret, KL_exit, k_ret, k_normal, stepE, isCall, calleeE, opE, wantE, odE, odS, odL, odSL, fget, fput, initE, keepF, List.map_cons, List.map_nil, binE, intOp, strOp, shOp, unE, eqpE, eqnE, neqB, ressE, resE, packL, packE, flat1, fcells, fillE, setL, cellsOf_bind, cellsO_own, cellsO_ro, lenE_sl, lenE_nils, lenE_sl0, bound, rep, minE, maxE, List.getElem?_cons_zero, List.getElem?_cons_succ, get_lt, set_lt, get_len, get_len_add, set_len, set_len_add, List.append_assoc, List.cons_append, List.nil_append, -getElem?_pos, l7_1, l7_1_1, hlt]
        exact hΦ _ _ _ ⟨rfl, rfl, rfl⟩
    · rintro x fr' h6 ⟨rfl, rfl, rfl⟩
      simp [wpk_skip, wpk_seq, k_cond, wpk_block, wpk_exit, wpk_ret, wpk_loop, k_ops, k_draw0, t_nil, t_cons, KT_eq, KD_eq, wpo_nil, k_cons, k_step, mt_some, mtk_some, KO_eq, KP_eq, K_normal, K_ret, K_exit, KB_normal, KB_ret, KB_exit, KL_normal, KL_ret, KL_exit, k_ret, k_normal, stepE, isCall, calleeE, opE, wantE, odE, odS, odL, odSL, fget, fput, initE, keepF, List.map_cons, List.map_nil, binE, intOp, strOp, shOp, unE, eqpE, eqnE, neqB, ressE, resE, packL, packE, flat1, fcells, fillE, setL, cellsOf_bind, cellsO_own, cellsO_ro, lenE_sl, lenE_nils, lenE_sl0, bound, rep, minE, maxE, List.getElem?_cons_zero, List.getElem?_cons_succ, get_lt, set_lt, get_len, get_len_add, set_len, set_len_add, List.append_assoc, List.cons_append, List.nil_append, -getElem?_pos, s7_9]
      have x1 : splitOk n [] = false := by unfold splitOk; rw [show (rightF []).2 = false by decide]; rfl
      have x2 : splitOk n [1, -1] = false := by unfold splitOk; rw [show (rightF [1, -1]).2 = false by decide]; rfl
      have x3 : splitOk n [1000001] = false := by unfold splitOk; rw [show (rightF [1000001]).2 = false by decide]; rfl
      have x4 : splitOk n [0, 0, 0, 0, 0, 0, 0, 0, 0, 0, 0, 0, 0, 0, 0, 0, 0] = false := by unfold splitOk; rw [show (rightF [0, 0, 0, 0, 0, 0, 0, 0, 0, 0, 0, 0, 0, 0, 0, 0, 0]).2 = false by decide]; rfl
      have z1 := split_ok (h := h6) (v := .nils) (w := []) (.inl ⟨rfl, .inl rfl⟩) (by decide) n
      rw [x1] at z1
      refine WPc.go z1 ?_
      rintro _ h7 ⟨g7, a7, rfl, -⟩
      have o7 : (h7 ++ [LO.own 3 [.int .i64 1, .int .i64 (-1)]])[h7.length]? = some (.own 3 (([1, -1] : List Int).flatMap encI)) := get_len
      have z2 := split_ok (Rd.lit encI_len o7 (p := 0)) (by decide) n
      rw [x2] at z2
      simp only [List.length_cons, List.length_nil] at z2
      simp [wpk_skip, wpk_seq, k_cond, wpk_block, wpk_exit, wpk_ret, wpk_loop, k_ops, k_draw0, t_nil, t_cons, KT_eq, KD_eq, wpo_nil, k_cons, k_step, mt_some, mtk_some, KO_eq, KP_eq, K_normal, K_ret, K_exit, KB_normal, KB_ret, KB_exit, KL_normal, KL_ret, KL_exit, k_ret, k_normal, stepE, isCall, calleeE, opE, wantE, odE, odS, odL, odSL, fget, fput, initE, keepF, List.map_cons, List.map_nil, binE, intOp, strOp, shOp, unE, eqpE, eqnE, neqB, ressE, resE, packL, packE, flat1, fcells, fillE, setL, cellsOf_bind, cellsO_own, cellsO_ro, lenE_sl, lenE_nils, lenE_sl0, bound, rep, minE, maxE, List.getElem?_cons_zero, List.getElem?_cons_succ, get_lt, set_lt, get_len, get_len_add, set_len, set_len_add, List.append_assoc, List.cons_append, List.nil_append, -getElem?_pos, s7_10]
      refine WPc.go z2 ?_
      rintro _ h8 ⟨g8, a8, rfl, -⟩
      have o8 : (h8 ++ [LO.own 3 [.int .i64 1000001]])[h8.length]? = some (.own 3 (([1000001] : List Int).flatMap encI)) := get_len
      have z3 := split_ok (Rd.lit encI_len o8 (p := 0)) (by decide) n
      rw [x3] at z3
      simp only [List.length_cons, List.length_nil] at z3
      simp [wpk_skip, wpk_seq, k_cond, wpk_block, wpk_exit, wpk_ret, wpk_loop, k_ops, k_draw0, t_nil, t_cons, KT_eq, KD_eq, wpo_nil, k_cons, k_step, mt_some, mtk_some, KO_eq, KP_eq, K_normal, K_ret, K_exit, KB_normal, KB_ret, KB_exit, KL_normal, KL_ret, KL_exit, k_ret, k_normal, stepE, isCall, calleeE, opE, wantE, odE, odS, odL, odSL, fget, fput, initE, keepF, List.map_cons, List.map_nil, binE, intOp, strOp, shOp, unE, eqpE, eqnE, neqB, ressE, resE, packL, packE, flat1, fcells, fillE, setL, cellsOf_bind, cellsO_own, cellsO_ro, lenE_sl, lenE_nils, lenE_sl0, bound, rep, minE, maxE, List.getElem?_cons_zero, List.getElem?_cons_succ, get_lt, set_lt, get_len, get_len_add, set_len, set_len_add, List.append_assoc, List.cons_append, List.nil_append, -getElem?_pos, s7_11]
      refine WPc.go z3 ?_
      rintro _ h9 ⟨g9, a9, rfl, -⟩
      have o9 : (h9 ++ [LO.own 3 (rep 17 [.int .i64 0])])[h9.length]? = some (.own 3 (([0, 0, 0, 0, 0, 0, 0, 0, 0, 0, 0, 0, 0, 0, 0, 0, 0] : List Int).flatMap encI)) := by rw [get_len]; rfl
      have z4 := split_ok (Rd.lit encI_len o9 (p := 0)) (by decide) n
      rw [x4] at z4
      simp only [List.length_cons, List.length_nil, rep] at z4
      simp [wpk_skip, wpk_seq, k_cond, wpk_block, wpk_exit, wpk_ret, wpk_loop, k_ops, k_draw0, t_nil, t_cons, KT_eq, KD_eq, wpo_nil, k_cons, k_step, mt_some, mtk_some, KO_eq, KP_eq, K_normal, K_ret, K_exit, KB_normal, KB_ret, KB_exit, KL_normal, KL_ret, KL_exit, k_ret, k_normal, stepE, isCall, calleeE, opE, wantE, odE, odS, odL, odSL, fget, fput, initE, keepF, List.map_cons, List.map_nil, binE, intOp, strOp, shOp, unE, eqpE, eqnE, neqB, ressE, resE, packL, packE, flat1, fcells, fillE, setL, cellsOf_bind, cellsO_own, cellsO_ro, lenE_sl, lenE_nils, lenE_sl0, bound, rep, minE, maxE, List.getElem?_cons_zero, List.getElem?_cons_succ, get_lt, set_lt, get_len, get_len_add, set_len, set_len_add, List.append_assoc, List.cons_append, List.nil_append, -getElem?_pos, s7_12]
      refine WPc.go z4 ?_
      rintro _ h10 ⟨g10, a10, rfl, -⟩
      simp [wpk_skip, wpk_seq, k_cond, wpk_block, wpk_exit, wpk_ret, wpk_loop, k_ops, k_draw0, t_nil, t_cons, KT_eq, KD_eq, wpo_nil, k_cons, k_step, mt_some, mtk_some, KO_eq, KP_eq, K_normal, K_ret, K_exit, KB_normal, KB_ret, KB_exit, KL_normal, KL_ret, KL_exit, k_ret, k_normal, stepE, isCall, calleeE, opE, wantE, odE, odS, odL, odSL, fget, fput, initE, keepF, List.map_cons, List.map_nil, binE, intOp, strOp, shOp, unE, eqpE, eqnE, neqB, ressE, resE, packL, packE, flat1, fcells, fillE, setL, cellsOf_bind, cellsO_own, cellsO_ro, lenE_sl, lenE_nils, lenE_sl0, bound, rep, minE, maxE, List.getElem?_cons_zero, List.getElem?_cons_succ, get_lt, set_lt, get_len, get_len_add, set_len, set_len_add, List.append_assoc, List.cons_append, List.nil_append, -getElem?_pos, s7_13]
      refine WPc.go (wakes_ok _) ?_
      rintro _ h11 ⟨g11, rfl⟩
      simp [wpk_skip, wpk_seq, k_cond, wpk_block, wpk_exit, wpk_ret, wpk_loop, k_ops, k_draw0, t_nil, t_cons, KT_eq, KD_eq, wpo_nil, k_cons, k_step, mt_some, mtk_some, KO_eq, KP_eq, K_normal, K_ret, K_exit, KB_normal, KB_ret, KB_exit, KL_normal, KL_ret, KL_exit, k_ret, k_normal, stepE, isCall, calleeE, opE, wantE, odE, odS, odL, odSL, fget, fput, initE, keepF, List.map_cons, List.map_nil, binE, intOp, strOp, shOp, unE, eqpE, eqnE, neqB, ressE, resE, packL, packE, flat1, fcells, fillE, setL, cellsOf_bind, cellsO_own, cellsO_ro, lenE_sl, lenE_nils, lenE_sl0, bound, rep, minE, maxE, List.getElem?_cons_zero, List.getElem?_cons_succ, get_lt, set_lt, get_len, get_len_add, set_len, set_len_add, List.append_assoc, List.cons_append, List.nil_append, -getElem?_pos]
      exact hΨ _ _ rfl
end Go.Proofs.Ytejoijjmlglhfaa.Ev.CS
