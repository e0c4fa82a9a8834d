/- SplitSums on the small machine. -/
import Derived.Test.YtejoijjmlglhfaaSpE
import Derived.Test.YtejoijjmlglhfaaEvRow
set_option linter.unusedSimpArgs false
set_option linter.unusedVariables false
namespace Go.Proofs.Ytejoijjmlglhfaa.Ev.CS
open Go

theorem getD_neg (l : List Int) (i : Nat) : (l.map (fun x => -x)).getD i 0 = -(l.getD i 0) := by
  simp only [List.getD, List.getElem?_map]
  cases l[i]? <;> simp
theorem sum_neg : ∀ l : List Int, (l.map (fun x => -x)).sum = -l.sum
  | [] => rfl
  | a :: l => by rw [List.map_cons, List.sum_cons, List.sum_cons, sum_neg l]; omega
theorem P_len (n : Int) (w : List Int) : (splitP n w).length = w.length := by
  unfold splitP; split
  · rw [List.length_map, shareF_len]
  · rw [shareF_len]
theorem P_sum (n : Int) {w : List Int} (hs : 0 < w.sum) : (splitP n w).sum = n := by
  unfold splitP; split
  · rw [sum_neg, share_sum hs]; omega
  · rw [share_sum hs]
theorem P_off (n : Int) {w : List Int} (hs : 0 < w.sum) {i : Nat} (hi : i < w.length) : -w.sum < n * w[i] - (splitP n w).getD i 0 * w.sum ∧ n * w[i] - (splitP n w).getD i 0 * w.sum < w.sum := by
  unfold splitP; split
  · have := share_off (n := -n) hs hi
    rw [getD_neg]
    rw [Int.neg_mul] at this
    rw [Int.neg_mul]
    omega
  · exact share_off hs hi
theorem P_zero {w : List Int} (hs : 0 < w.sum) {i : Nat} (hi : i < w.length) : (splitP 0 w).getD i 0 = 0 := by
  unfold splitP
  rw [if_neg (by decide)]
  exact share_zero hs hi (by simp)
theorem P_mono1 {n : Int} {w : List Int} (hn : 0 ≤ n) (hs : 0 < w.sum) {i k : Nat} (hi : i < w.length) (hk : k < w.length) (h : w[i] < w[k]) : (splitP n w).getD i 0 ≤ (splitP n w).getD k 0 := by
  unfold splitP
  rw [if_neg (by omega)]
  exact share_mono hn hs hi hk h
theorem P_mono2 {n : Int} {w : List Int} (hn : n ≤ 0) (hs : 0 < w.sum) {i k : Nat} (hi : i < w.length) (hk : k < w.length) (h : w[i] < w[k]) : (splitP n w).getD k 0 ≤ (splitP n w).getD i 0 := by
  by_cases c : n = 0
  · subst c; rw [P_zero hs hi, P_zero hs hk]; exact Int.le_refl _
  · unfold splitP
    rw [if_pos (by omega), getD_neg, getD_neg]
    have := share_mono (n := -n) (by omega) hs hi hk h
    omega

theorem P_bound {n : Int} {w : List Int} (hn : -100000000000 ≤ n ∧ n ≤ 100000000000) (hw : w.all wR = true) (hs : 0 < w.sum) : ∀ x ∈ splitP n w, -200000000000000000 ≤ x ∧ x ≤ 200000000000000000 := by
  intro x hx
  unfold splitP at hx
  split at hx
  · obtain ⟨y, hy, rfl⟩ := List.mem_map.1 hx
    have := share_bound (n := -n) (by omega) hw hs y hy
    omega
  · have := share_bound (n := n) (by omega) hw hs x hx
    omega
theorem take_sum_bound {L : List Int} (h : ∀ x ∈ L, -200000000000000000 ≤ x ∧ x ≤ 200000000000000000) (k : Nat) : -(200000000000000000 * (k : Int)) ≤ (L.take k).sum ∧ (L.take k).sum ≤ 200000000000000000 * (k : Int) := by
  have a := sum_leB (B := 200000000000000000) (l := L.take k) fun x hx => (h x (List.mem_of_mem_take hx)).2
  have b := sum_leB (B := 200000000000000000) (l := (L.take k).map (fun x => -x)) fun x hx => by
    obtain ⟨y, hy, rfl⟩ := List.mem_map.1 hx
    have := h y (List.mem_of_mem_take hy)
    omega
  rw [sum_neg] at b
  have : (L.take k).length ≤ k := by simp; omega
  have c : ((L.take k).map (fun x => -x)).length = (L.take k).length := List.length_map _
  omega

set_option maxRecDepth 20000 in
set_option maxHeartbeats 8000000 in
theorem splitSums_ok {h0 : LH} {av : SV} {zs : List Int} (n0 : Int) (ha : IntA h0 3 av zs) : ∃ h', callX C 6 [.s (.int .i64 n0), .s av] h0 = some (.s (.bool true), h') ∧ True := by
  suffices w : WPc C 6 [.s (.int .i64 n0), .s av] h0 fun u _ => u = .s (.bool true) by
    obtain ⟨v, h', e, rfl⟩ := w
    exact ⟨h', e, trivial⟩
  refine WPc.post fun Ψ hΨ => ?_
  refine WPc.intro (e := e6) rfl (by simp [e6]) ?_
  show WPk C b6 _ _ (KR [.tmp 4] _)
  simp [wpk_skip, wpk_seq, k_cond, wpk_block, wpk_exit, wpk_ret, wpk_loop, k_ops, k_draw0, t_nil, t_cons, KT_eq, KD_eq, wpo_nil, k_cons, k_step, mt_some, mtk_some, KO_eq, KP_eq, K_normal, K_ret, K_exit, KB_normal, KB_ret, KB_exit, KL_normal, KL_ret, KL_exit, k_ret, k_normal, stepE, isCall, calleeE, opE, wantE, odE, odS, odL, odSL, fget, fput, initE, keepF, List.map_cons, List.map_nil, binE, intOp, strOp, shOp, unE, eqpE, eqnE, neqB, ressE, resE, packL, packE, flat1, fcells, fillE, setL, cellsOf_bind, cellsO_own, cellsO_ro, lenE_sl, lenE_nils, lenE_sl0, bound, rep, minE, maxE, List.getElem?_cons_zero, List.getElem?_cons_succ, get_lt, set_lt, get_len, get_len_add, set_len, set_len_add, List.append_assoc, List.cons_append, List.nil_append, -getElem?_pos, b6, s6_1, s6_2, s6_3]
  obtain ⟨ws, hws⟩ : ∃ ws : List Int, ws = (zs.take 16).map (· % 1000) := ⟨_, rfl⟩
  have lw : ws.length = min 16 zs.length := by rw [hws]; simp
  have wb : ∀ x ∈ ws, 0 ≤ x ∧ x < 1000 := by
    intro x hx
    rw [hws] at hx
    obtain ⟨y, _, rfl⟩ := List.mem_map.1 hx
    omega
  have wall : ws.all wR = true := List.all_eq_true.2 fun x hx => decide_eq_true (by have := wb x hx; omega)
  refine WPl.post (fun x fr' h' => x = .exit 0 ∧ ∃ v5, fr' = [(0, some (.s (.int .i64 n0))), (5, some (.s v5)), (6, some (.s (.int .i64 ws.sum)))] ∧ Ow h0.length h' 3 encI v5 ws) (fun Φ hΦ => ?_) ?_
  · refine WPl.inv2 (fun m fr h' => ∃ (k : Nat) (v5 : SV), k ≤ ws.length ∧ m = ws.length - k ∧ Gr h0 h' ∧ Ow h0.length h' 3 encI v5 (ws.take k) ∧
      fr = [(0, some (.s (.int .i64 n0))), (1, some (.s av)), (5, some (.s v5)), (6, some (.s (.int .i64 (ws.take k).sum))), (7, some (.s (.int .i64 k)))]) ?_ _ _ _ ⟨0, .nils, Nat.zero_le _, rfl, Gr.refl _, Ow.nil _ _, by simp⟩
    rintro I hI m fr h' ⟨k, v5, hk, rfl, gr, o5, rfl⟩
    refine ⟨by simp [keepF, fget], ?_⟩
    have rz := ha.rd.gr gr
    have rl := rz.len
    by_cases hlt : k < ws.length
    · have kz : k < zs.length := by omega
      have k16 : k < 16 := by omega
      have k16' : (k : Int) < 16 := by omega
      obtain ⟨i, p, o, ob, vs, rfl, q2, q3, q4⟩ := rz.int kz
      have q5 := lt_of_some q2
      have y2 := fun h => within_ok zs[k] 1000 (by omega) h
      have ew : zs[k] % 1000 = ws[k] := by subst hws; simp
      rw [ew] at y2
      have hx := wb _ (List.getElem_mem hlt)
      have es := sum_take_succ ws hlt
      have sb := sum_bound (l := ws.take k) (List.all_eq_true.2 fun x hx => List.all_eq_true.1 wall x (List.mem_of_mem_take hx))
      have lk : (ws.take k).length = k := by simp; omega
      have e5 : ws.take (k + 1) = ws.take k ++ [ws[k]] := List.take_succ_eq_append_getElem hlt
      have eL : (ws.take (k + 1))[k]'(by simp; omega) = ws[k] := by simp
      have g0 : ws[k]? = some ws[k] := List.getElem?_eq_getElem hlt
      generalize ws[k] = x at *
      have w2 : IntKind.i64.wrap ((ws.take k).sum + x) = (ws.take (k + 1)).sum := by rw [es]; exact wrap_small (by omega) (by omega)
      have w3 : IntKind.i64.wrap ((k : Int) + 1) = ((k + 1 : Nat) : Int) := wrap_small (by omega) (by omega)
      have hA := o5.app1 (y := 8) encI_len (by omega) [LO.own 3 [.int .i64 x]] [.int .i64 x]
      obtain ⟨f1, f2⟩ := Ow.step gr o5 x [LO.own 3 [.int .i64 x]] (n := (ws.take k).length + 1) (cs := [.int .i64 x]) (m := 1) rfl rfl rfl
      rw [← e5] at f2
      obtain ⟨H1, hH⟩ : ∃ H1, H1 = kill v5 (h' ++ [LO.own 3 [.int .i64 x]]) ++ [.own 3 ((ws.take k).flatMap encI ++ [.int .i64 x])] := ⟨_, rfl⟩
      rw [← hH] at f1 f2 hA
      obtain ⟨j, _, ej, j2, _⟩ := f2.int_at (k := k) (by simp; omega)
      have ej' := (SV.sl.inj ej).1
      subst ej'
      have j3 : (((ws.take (k + 1)).map (SV.int .i64)))[k]? = some (.int .i64 x) := by
        rw [List.getElem?_map, List.getElem?_eq_getElem (by simp; omega), eL]; rfl
      have l5 := o5.len
      clear eL
      generalize (ws.take k) = A at *
      have t6 : (k : Int) < A.length + 1 := by omega
      have t7 : k < A.length + 1 := by omega
      simp [wpk_skip, wpk_seq, k_cond, wpk_block, wpk_exit, wpk_ret, wpk_loop, k_ops, k_draw0, t_nil, t_cons, KT_eq, KD_eq, wpo_nil, k_cons, k_step, mt_some, mtk_some, KO_eq, KP_eq, K_normal, K_ret, K_exit, KB_normal, KB_ret, KB_exit, KL_normal, KL_ret, KL_exit, k_ret, k_normal, stepE, isCall, calleeE, opE, wantE, odE, odS, odL, odSL, fget, fput, initE, keepF, List.map_cons, List.map_nil, binE, intOp, strOp, shOp, unE, eqpE, eqnE, neqB, ressE, resE, packL, packE, flat1, fcells, fillE, setL, cellsOf_bind, cellsO_own, cellsO_ro, lenE_sl, lenE_nils, lenE_sl0, bound, rep, minE, maxE, List.getElem?_cons_zero, List.getElem?_cons_succ, get_lt, set_lt, get_len, get_len_add, set_len, set_len_add, List.append_assoc, List.cons_append, List.nil_append, -getElem?_pos, l6_0_1, l6_0, rl, kz, k16, k16', q2, q3, q4, q5, y2, elems, l5, hA, t6, t7, j2, j3, g0, w2, w3]
      exact ⟨_, by omega, hI _ _ _ ⟨k + 1, _, hlt, rfl, f1, f2, rfl⟩⟩
    · obtain rfl : k = ws.length := by omega
      rw [List.take_length] at o5
      rw [List.take_length]
      by_cases c1 : ws.length < zs.length
      · have c2 : ¬ ws.length < 16 := by omega
        have c3 : ¬ (ws.length : Int) < 16 := by omega
        simp [wpk_skip, wpk_seq, k_cond, wpk_block, wpk_exit, wpk_ret, wpk_loop, k_ops, k_draw0, t_nil, t_cons, KT_eq, KD_eq, wpo_nil, k_cons, k_step, mt_some, mtk_some, KO_eq, KP_eq, K_normal, K_ret, K_exit, KB_normal, KB_ret, KB_exit, KL_normal, KL_ret, KL_exit, k_ret, k_normal, stepE, isCall, calleeE, opE, wantE, odE, odS, odL, odSL, fget, fput, initE, keepF, List.map_cons, List.map_nil, binE, intOp, strOp, shOp, unE, eqpE, eqnE, neqB, ressE, resE, packL, packE, flat1, fcells, fillE, setL, cellsOf_bind, cellsO_own, cellsO_ro, lenE_sl, lenE_nils, lenE_sl0, bound, rep, minE, maxE, List.getElem?_cons_zero, List.getElem?_cons_succ, get_lt, set_lt, get_len, get_len_add, set_len, set_len_add, List.append_assoc, List.cons_append, List.nil_append, -getElem?_pos, l6_0_1, l6_0, rl, c1, c2, c3]
        exact hΦ _ _ _ ⟨rfl, v5, rfl, o5⟩
      · simp [wpk_skip, wpk_seq, k_cond, wpk_block, wpk_exit, wpk_ret, wpk_loop, k_ops, k_draw0, t_nil, t_cons, KT_eq, KD_eq, wpo_nil, k_cons, k_step, mt_some, mtk_some, KO_eq, KP_eq, K_normal, K_ret, K_exit, KB_normal, KB_ret, KB_exit, KL_normal, KL_ret, KL_exit, k_ret, k_normal, stepE, isCall, calleeE, opE, wantE, odE, odS, odL, odSL, fget, fput, initE, keepF, List.map_cons, List.map_nil, binE, intOp, strOp, shOp, unE, eqpE, eqnE, neqB, ressE, resE, packL, packE, flat1, fcells, fillE, setL, cellsOf_bind, cellsO_own, cellsO_ro, lenE_sl, lenE_nils, lenE_sl0, bound, rep, minE, maxE, List.getElem?_cons_zero, List.getElem?_cons_succ, get_lt, set_lt, get_len, get_len_add, set_len, set_len_add, List.append_assoc, List.cons_append, List.nil_append, -getElem?_pos, l6_0_1, l6_0, rl, c1]
        exact hΦ _ _ _ ⟨rfl, v5, rfl, o5⟩
  · rintro x fr' h1 ⟨rfl, v5, rfl, o5⟩
    have y1 := fun h => within_ok n0 200000000001 (by omega) h
    have b1 : 0 ≤ n0 % 200000000001 ∧ n0 % 200000000001 < 200000000001 := by omega
    generalize n0 % 200000000001 = q at *
    have w1 : IntKind.i64.wrap (q - 100000000000) = q - 100000000000 := wrap_small (by omega) (by omega)
    obtain ⟨n, hn⟩ : ∃ n, n = q - 100000000000 := ⟨_, rfl⟩
    rw [← hn] at w1
    have bn : -100000000000 ≤ n ∧ n ≤ 100000000000 := by omega
    simp [wpk_skip, wpk_seq, k_cond, wpk_block, wpk_exit, wpk_ret, wpk_loop, k_ops, k_draw0, t_nil, t_cons, KT_eq, KD_eq, wpo_nil, k_cons, k_step, mt_some, mtk_some, KO_eq, KP_eq, K_normal, K_ret, K_exit, KB_normal, KB_ret, KB_exit, KL_normal, KL_ret, KL_exit, k_ret, k_normal, stepE, isCall, calleeE, opE, wantE, odE, odS, odL, odSL, fget, fput, initE, keepF, List.map_cons, List.map_nil, binE, intOp, strOp, shOp, unE, eqpE, eqnE, neqB, ressE, resE, packL, packE, flat1, fcells, fillE, setL, cellsOf_bind, cellsO_own, cellsO_ro, lenE_sl, lenE_nils, lenE_sl0, bound, rep, minE, maxE, List.getElem?_cons_zero, List.getElem?_cons_succ, get_lt, set_lt, get_len, get_len_add, set_len, set_len_add, List.append_assoc, List.cons_append, List.nil_append, -getElem?_pos, s6_4, s6_5, y1, ← hn, w1]
    have sb := sum_bound wall
    refine WPc.go (split_ok (o5.rd encI_len) (by omega) n) ?_
    rintro _ h2 ⟨g2, a, rfl, oa⟩
    have r5 := (o5.gr g2).rd encI_len
    have ra := oa.rd encI_len
    have l5 := r5.len
    have la := ra.len
    by_cases hz : ws.sum = 0
    · have hz' : (ws.sum == 0) = true := by simp [hz]
      have hok : splitOk n ws = false := by
        unfold splitOk rightF
        rw [if_pos wall, hz]; rfl
      have hF : splitF n ws = [] := by unfold splitF; rw [hok]; rfl
      rw [hF] at la
      rw [hok]
      simp [wpk_skip, wpk_seq, k_cond, wpk_block, wpk_exit, wpk_ret, wpk_loop, k_ops, k_draw0, t_nil, t_cons, KT_eq, KD_eq, wpo_nil, k_cons, k_step, mt_some, mtk_some, KO_eq, KP_eq, K_normal, K_ret, K_exit, KB_normal, KB_ret, KB_exit, KL_normal, KL_ret, KL_exit, k_ret, k_normal, stepE, isCall, calleeE, opE, wantE, odE, odS, odL, odSL, fget, fput, initE, keepF, List.map_cons, List.map_nil, binE, intOp, strOp, shOp, unE, eqpE, eqnE, neqB, ressE, resE, packL, packE, flat1, fcells, fillE, setL, cellsOf_bind, cellsO_own, cellsO_ro, lenE_sl, lenE_nils, lenE_sl0, bound, rep, minE, maxE, List.getElem?_cons_zero, List.getElem?_cons_succ, get_lt, set_lt, get_len, get_len_add, set_len, set_len_add, List.append_assoc, List.cons_append, List.nil_append, -getElem?_pos, s6_6, hz', la]
      refine WPc.go (wakes_ok h2) ?_
      rintro _ h3 ⟨g3, rfl⟩
      simp [wpk_skip, wpk_seq, k_cond, wpk_block, wpk_exit, wpk_ret, wpk_loop, k_ops, k_draw0, t_nil, t_cons, KT_eq, KD_eq, wpo_nil, k_cons, k_step, mt_some, mtk_some, KO_eq, KP_eq, K_normal, K_ret, K_exit, KB_normal, KB_ret, KB_exit, KL_normal, KL_ret, KL_exit, k_ret, k_normal, stepE, isCall, calleeE, opE, wantE, odE, odS, odL, odSL, fget, fput, initE, keepF, List.map_cons, List.map_nil, binE, intOp, strOp, shOp, unE, eqpE, eqnE, neqB, ressE, resE, packL, packE, flat1, fcells, fillE, setL, cellsOf_bind, cellsO_own, cellsO_ro, lenE_sl, lenE_nils, lenE_sl0, bound, rep, minE, maxE, List.getElem?_cons_zero, List.getElem?_cons_succ, get_lt, set_lt, get_len, get_len_add, set_len, set_len_add, List.append_assoc, List.cons_append, List.nil_append, -getElem?_pos]
      exact hΨ _ _ rfl
    · have hz' : (ws.sum == 0) = false := by simpa using hz
      have hs : 0 < ws.sum := by omega
      have hok : splitOk n ws = true := by
        unfold splitOk rightF
        rw [if_pos wall]
        simp only [Bool.and_eq_true, decide_eq_true_eq]
        omega
      have hF : splitF n ws = splitP n ws := by unfold splitF; rw [hok]; rfl
      rw [hF] at ra la
      rw [hok]
      have pl := P_len n ws
      have ps := P_sum n hs
      have po := fun i hi => P_off n hs (i := i) hi
      have p1 := fun i k hi hk h hn => P_mono1 (n := n) (w := ws) hn hs (i := i) (k := k) hi hk h
      have p2 := fun i k hi hk h hn => P_mono2 (n := n) (w := ws) hn hs (i := i) (k := k) hi hk h
      have s16 : ws.sum ≤ 16000 := by
        have := sum_leB (B := 1000) (l := ws) (fun x hx => by have := wb x hx; omega)
        omega
      have bL := P_bound bn wall hs
      generalize splitP n ws = L at *
      have hne : ((L.length : Int) != (ws.length : Int)) = false := by simp [pl]
      simp [wpk_skip, wpk_seq, k_cond, wpk_block, wpk_exit, wpk_ret, wpk_loop, k_ops, k_draw0, t_nil, t_cons, KT_eq, KD_eq, wpo_nil, k_cons, k_step, mt_some, mtk_some, KO_eq, KP_eq, K_normal, K_ret, K_exit, KB_normal, KB_ret, KB_exit, KL_normal, KL_ret, KL_exit, k_ret, k_normal, stepE, isCall, calleeE, opE, wantE, odE, odS, odL, odSL, fget, fput, initE, keepF, List.map_cons, List.map_nil, binE, intOp, strOp, shOp, unE, eqpE, eqnE, neqB, ressE, resE, packL, packE, flat1, fcells, fillE, setL, cellsOf_bind, cellsO_own, cellsO_ro, lenE_sl, lenE_nils, lenE_sl0, bound, rep, minE, maxE, List.getElem?_cons_zero, List.getElem?_cons_succ, get_lt, set_lt, get_len, get_len_add, set_len, set_len_add, List.append_assoc, List.cons_append, List.nil_append, -getElem?_pos, s6_6, s6_7, s6_8, s6_9, hz', la, l5, hne]
      refine WPl.post (fun x fr' h' => x = .exit 2 ∧ fr' = [(0, some (.s (.int .i64 n))), (10, some (.s (.int .i64 n)))] ∧ h' = h2) (fun Φ hΦ => ?_) ?_
      · refine WPl.inv2 (fun m fr h' => h' = h2 ∧ ∃ (k : Nat), k ≤ L.length ∧ m = L.length - k ∧
          fr = [(0, some (.s (.int .i64 n))), (5, some (.s v5)), (6, some (.s (.int .i64 ws.sum))), (8, some (.s a)), (10, some (.s (.int .i64 (L.take k).sum))), (69, some (.s (.int .i64 L.length))), (70, some (.s (.int .i64 k)))]) ?_ _ _ _ ⟨rfl, 0, Nat.zero_le _, rfl, by simp⟩
        rintro I hI m fr h' ⟨rfl, k, hk, rfl, rfl⟩
        refine ⟨by simp [keepF, fget], ?_⟩
        by_cases hlt : k < L.length
        · have kw : k < ws.length := by omega
          obtain ⟨i, p, o, ob, vs, e5, q2, q3, q4⟩ := r5.int kw
          obtain ⟨i', p', o', ob', vs', ea, u2, u3, u4⟩ := ra.int hlt
          rw [e5, ea] at hI ⊢
          have off := po k kw
          have hx := wb _ (List.getElem_mem kw)
          rw [getD_at hlt] at off
          have m1 : n * ws[k] ≤ 100000000000 * 1000 := by
            rcases Int.lt_or_le n 0 with c | c
            · have := Int.mul_nonpos_of_nonpos_of_nonneg (Int.le_of_lt c) hx.1
              omega
            · exact Int.mul_le_mul bn.2 (by omega) hx.1 (by decide)
          have m2 : -(100000000000 * 1000) ≤ n * ws[k] := by
            rcases Int.lt_or_le n 0 with c | c
            · have : -n * ws[k] ≤ 100000000000 * 1000 := Int.mul_le_mul (by omega) (by omega) hx.1 (by decide)
              rw [Int.neg_mul] at this
              omega
            · have := Int.mul_nonneg c hx.1
              omega
          have w1 : IntKind.i64.wrap (n * ws[k]) = n * ws[k] := wrap_small (by omega) (by omega)
          have w2 : IntKind.i64.wrap (L[k] * ws.sum) = L[k] * ws.sum := wrap_small (by omega) (by omega)
          have w3 : IntKind.i64.wrap (n * ws[k] - L[k] * ws.sum) = n * ws[k] - L[k] * ws.sum := wrap_small (by omega) (by omega)
          have w4 : IntKind.i64.wrap (-ws.sum) = -ws.sum := wrap_small (by omega) (by omega)
          have w5 : IntKind.i64.wrap ((k : Int) + 1) = ((k + 1 : Nat) : Int) := wrap_small (by omega) (by omega)
          have w6 : IntKind.i64.wrap ((L.take k).sum + L[k]) = (L.take (k + 1)).sum := by
            have b1 := take_sum_bound bL k
            have b2 := bL _ (List.getElem_mem hlt)
            rw [sum_take_succ L hlt]
            exact wrap_small (by omega) (by omega)
          have c1 : ¬ n * ws[k] - L[k] * ws.sum ≤ -ws.sum := by omega
          have c2 : ¬ n * ws[k] - L[k] * ws.sum ≥ ws.sum := by omega
          have c2' : ¬ ws.sum ≤ n * ws[k] - L[k] * ws.sum := by omega
          simp [wpk_skip, wpk_seq, k_cond, wpk_block, wpk_exit, wpk_ret, wpk_loop, k_ops, k_draw0, t_nil, t_cons, KT_eq, KD_eq, wpo_nil, k_cons, k_step, mt_some, mtk_some, KO_eq, KP_eq, K_normal, K_ret, K_exit, KB_normal, KB_ret, KB_exit, KL_normal, KL_ret, KL_exit, k_ret, k_normal, stepE, isCall, calleeE, opE, wantE, odE, odS, odL, odSL, fget, fput, initE, keepF, List.map_cons, List.map_nil, binE, intOp, strOp, shOp, unE, eqpE, eqnE, neqB, ressE, resE, packL, packE, flat1, fcells, fillE, setL, cellsOf_bind, cellsO_own, cellsO_ro, lenE_sl, lenE_nils, lenE_sl0, bound, rep, minE, maxE, List.getElem?_cons_zero, List.getElem?_cons_succ, get_lt, set_lt, get_len, get_len_add, set_len, set_len_add, List.append_assoc, List.cons_append, List.nil_append, -getElem?_pos, l6_2, l6_2_1, l6_2_2, hlt, kw, q2, q3, q4, u2, u3, u4, w1, w2, w3, w4, w6, c1, c2, c2', la]
          have inner : ∀ (Φ : Ex → Fr → LH → Prop), (∀ fr, fr = [(0, some (.s (.int .i64 n))), (5, some (.s (.sl i p o ws.length))), (6, some (.s (.int .i64 ws.sum))), (8, some (.s (.sl i' p' o' L.length))), (10, some (.s (.int .i64 (L.take (k + 1)).sum))), (69, some (.s (.int .i64 L.length))), (70, some (.s (.int .i64 k)))] → Φ (.exit 4) fr h') →
              WPl C l6_1 [0, 5, 6, 8, 10, 11, 69, 70, 102, 103] [(0, some (.s (.int .i64 n))), (5, some (.s (.sl i p o ws.length))), (6, some (.s (.int .i64 ws.sum))), (8, some (.s (.sl i' p' o' L.length))), (10, some (.s (.int .i64 (L.take (k + 1)).sum))), (11, some (.s (.int .i64 k))), (69, some (.s (.int .i64 L.length))), (70, some (.s (.int .i64 k))), (102, some (.s (.int .i64 L.length))), (103, some (.s (.int .i64 0)))] h' Φ := by
            intro Φ hΦ
            refine WPl.inv2 (fun m fr h2 => h2 = h' ∧ ∃ (j : Nat), j ≤ L.length ∧ m = L.length - j ∧
              fr = [(0, some (.s (.int .i64 n))), (5, some (.s (.sl i p o ws.length))), (6, some (.s (.int .i64 ws.sum))), (8, some (.s (.sl i' p' o' L.length))), (10, some (.s (.int .i64 (L.take (k + 1)).sum))), (11, some (.s (.int .i64 k))), (69, some (.s (.int .i64 L.length))), (70, some (.s (.int .i64 k))), (102, some (.s (.int .i64 L.length))), (103, some (.s (.int .i64 j)))]) ?_ _ _ _ ⟨rfl, 0, Nat.zero_le _, rfl, by simp⟩
            rintro I hI m fr h2 ⟨rfl, j, hj, rfl, rfl⟩
            refine ⟨by simp [keepF, fget], ?_⟩
            by_cases jlt : j < L.length
            · have jw : j < ws.length := by omega
              obtain ⟨_, _, _, obj, vsj, ej, s2, s3, s4⟩ := r5.int jw
              obtain ⟨_, _, _, obj', vsj', ej', t2, t3, t4⟩ := ra.int jlt
              rw [e5] at ej
              rw [ea] at ej'
              simp only [SV.sl.injEq] at ej ej'
              obtain ⟨rfl, rfl, rfl, -⟩ := ej
              obtain ⟨rfl, rfl, rfl, -⟩ := ej'
              obtain rfl := Option.some.inj (q2.symm.trans s2)
              obtain rfl := Option.some.inj (u2.symm.trans t2)
              obtain rfl := (Prod.mk.inj (Option.some.inj (q3.symm.trans s3))).2
              obtain rfl := (Prod.mk.inj (Option.some.inj (u3.symm.trans t3))).2
              have w7 : IntKind.i64.wrap ((j : Int) + 1) = ((j + 1 : Nat) : Int) := wrap_small (by omega) (by omega)
              by_cases a : ws[k] < ws[j]
              · have a' : ws[j] > ws[k] := a
                by_cases c : 0 ≤ n
                · have d := p1 k j kw jw a c
                  rw [getD_at hlt, getD_at jlt] at d
                  have d' : ¬ L[j] < L[k] := by omega
                  by_cases c3 : n ≤ 0
                  · have f := p2 k j kw jw a c3
                    rw [getD_at hlt, getD_at jlt] at f
                    have f' : ¬ L[k] < L[j] := by omega
                    have f'' : ¬ L[j] > L[k] := by omega
                    simp [wpk_skip, wpk_seq, k_cond, wpk_block, wpk_exit, wpk_ret, wpk_loop, k_ops, k_draw0, t_nil, t_cons, KT_eq, KD_eq, wpo_nil, k_cons, k_step, mt_some, mtk_some, KO_eq, KP_eq, K_normal, K_ret, K_exit, KB_normal, KB_ret, KB_exit, KL_normal, KL_ret, KL_exit, k_ret, k_normal, stepE, isCall, calleeE, opE, wantE, odE, odS, odL, odSL, fget, fput, initE, keepF, List.map_cons, List.map_nil, binE, intOp, strOp, shOp, unE, eqpE, eqnE, neqB, ressE, resE, packL, packE, flat1, fcells, fillE, setL, cellsOf_bind, cellsO_own, cellsO_ro, lenE_sl, lenE_nils, lenE_sl0, bound, rep, minE, maxE, List.getElem?_cons_zero, List.getElem?_cons_succ, get_lt, set_lt, get_len, get_len_add, set_len, set_len_add, List.append_assoc, List.cons_append, List.nil_append, -getElem?_pos, l6_1, l6_1_1, l6_1_2, jlt, jw, kw, hlt, q2, q3, q4, u2, u3, u4, s2, s3, s4, t2, t3, t4, a, c, c3, d', f', f'', w7]
                    exact ⟨_, by omega, hI _ _ _ ⟨rfl, j + 1, jlt, rfl, rfl⟩⟩
                  · simp [wpk_skip, wpk_seq, k_cond, wpk_block, wpk_exit, wpk_ret, wpk_loop, k_ops, k_draw0, t_nil, t_cons, KT_eq, KD_eq, wpo_nil, k_cons, k_step, mt_some, mtk_some, KO_eq, KP_eq, K_normal, K_ret, K_exit, KB_normal, KB_ret, KB_exit, KL_normal, KL_ret, KL_exit, k_ret, k_normal, stepE, isCall, calleeE, opE, wantE, odE, odS, odL, odSL, fget, fput, initE, keepF, List.map_cons, List.map_nil, binE, intOp, strOp, shOp, unE, eqpE, eqnE, neqB, ressE, resE, packL, packE, flat1, fcells, fillE, setL, cellsOf_bind, cellsO_own, cellsO_ro, lenE_sl, lenE_nils, lenE_sl0, bound, rep, minE, maxE, List.getElem?_cons_zero, List.getElem?_cons_succ, get_lt, set_lt, get_len, get_len_add, set_len, set_len_add, List.append_assoc, List.cons_append, List.nil_append, -getElem?_pos, l6_1, l6_1_1, l6_1_2, jlt, jw, kw, hlt, q2, q3, q4, u2, u3, u4, s2, s3, s4, t2, t3, t4, a, c, c3, d', w7]
                    exact ⟨_, by omega, hI _ _ _ ⟨rfl, j + 1, jlt, rfl, rfl⟩⟩
                · have c3 : n ≤ 0 := by omega
                  have f := p2 k j kw jw a c3
                  rw [getD_at hlt, getD_at jlt] at f
                  have f' : ¬ L[k] < L[j] := by omega
                  have f'' : ¬ L[j] > L[k] := by omega
                  simp [wpk_skip, wpk_seq, k_cond, wpk_block, wpk_exit, wpk_ret, wpk_loop, k_ops, k_draw0, t_nil, t_cons, KT_eq, KD_eq, wpo_nil, k_cons, k_step, mt_some, mtk_some, KO_eq, KP_eq, K_normal, K_ret, K_exit, KB_normal, KB_ret, KB_exit, KL_normal, KL_ret, KL_exit, k_ret, k_normal, stepE, isCall, calleeE, opE, wantE, odE, odS, odL, odSL, fget, fput, initE, keepF, List.map_cons, List.map_nil, binE, intOp, strOp, shOp, unE, eqpE, eqnE, neqB, ressE, resE, packL, packE, flat1, fcells, fillE, setL, cellsOf_bind, cellsO_own, cellsO_ro, lenE_sl, lenE_nils, lenE_sl0, bound, rep, minE, maxE, List.getElem?_cons_zero, List.getElem?_cons_succ, get_lt, set_lt, get_len, get_len_add, set_len, set_len_add, List.append_assoc, List.cons_append, List.nil_append, -getElem?_pos, l6_1, l6_1_1, l6_1_2, jlt, jw, kw, hlt, q2, q3, q4, u2, u3, u4, s2, s3, s4, t2, t3, t4, a, c, c3, f', f'', w7]
                  exact ⟨_, by omega, hI _ _ _ ⟨rfl, j + 1, jlt, rfl, rfl⟩⟩
              · simp [wpk_skip, wpk_seq, k_cond, wpk_block, wpk_exit, wpk_ret, wpk_loop, k_ops, k_draw0, t_nil, t_cons, KT_eq, KD_eq, wpo_nil, k_cons, k_step, mt_some, mtk_some, KO_eq, KP_eq, K_normal, K_ret, K_exit, KB_normal, KB_ret, KB_exit, KL_normal, KL_ret, KL_exit, k_ret, k_normal, stepE, isCall, calleeE, opE, wantE, odE, odS, odL, odSL, fget, fput, initE, keepF, List.map_cons, List.map_nil, binE, intOp, strOp, shOp, unE, eqpE, eqnE, neqB, ressE, resE, packL, packE, flat1, fcells, fillE, setL, cellsOf_bind, cellsO_own, cellsO_ro, lenE_sl, lenE_nils, lenE_sl0, bound, rep, minE, maxE, List.getElem?_cons_zero, List.getElem?_cons_succ, get_lt, set_lt, get_len, get_len_add, set_len, set_len_add, List.append_assoc, List.cons_append, List.nil_append, -getElem?_pos, l6_1, l6_1_1, l6_1_2, jlt, jw, kw, hlt, q2, q3, q4, u2, u3, u4, s2, s3, s4, t2, t3, t4, a, w7]
                exact ⟨_, by omega, hI _ _ _ ⟨rfl, j + 1, jlt, rfl, rfl⟩⟩
            · simp [wpk_skip, wpk_seq, k_cond, wpk_block, wpk_exit, wpk_ret, wpk_loop, k_ops, k_draw0, t_nil, t_cons, KT_eq, KD_eq, wpo_nil, k_cons, k_step, mt_some, mtk_some, KO_eq, KP_eq, K_normal, K_ret, K_exit, KB_normal, KB_ret, KB_exit, KL_normal, KL_ret, KL_exit, k_ret, k_normal, stepE, isCall, calleeE, opE, wantE, odE, odS, odL, odSL, fget, fput, initE, keepF, List.map_cons, List.map_nil, binE, intOp, strOp, shOp, unE, eqpE, eqnE, neqB, ressE, resE, packL, packE, flat1, fcells, fillE, setL, cellsOf_bind, cellsO_own, cellsO_ro, lenE_sl, lenE_nils, lenE_sl0, bound, rep, minE, maxE, List.getElem?_cons_zero, List.getElem?_cons_succ, get_lt, set_lt, get_len, get_len_add, set_len, set_len_add, List.append_assoc, List.cons_append, List.nil_append, -getElem?_pos, l6_1, l6_1_1, jlt]
              exact hΦ _ rfl
          refine inner _ ?_
          rintro fr rfl
          simp [wpk_skip, wpk_seq, k_cond, wpk_block, wpk_exit, wpk_ret, wpk_loop, k_ops, k_draw0, t_nil, t_cons, KT_eq, KD_eq, wpo_nil, k_cons, k_step, mt_some, mtk_some, KO_eq, KP_eq, K_normal, K_ret, K_exit, KB_normal, KB_ret, KB_exit, KL_normal, KL_ret, KL_exit, k_ret, k_normal, stepE, isCall, calleeE, opE, wantE, odE, odS, odL, odSL, fget, fput, initE, keepF, List.map_cons, List.map_nil, binE, intOp, strOp, shOp, unE, eqpE, eqnE, neqB, ressE, resE, packL, packE, flat1, fcells, fillE, setL, cellsOf_bind, cellsO_own, cellsO_ro, lenE_sl, lenE_nils, lenE_sl0, bound, rep, minE, maxE, List.getElem?_cons_zero, List.getElem?_cons_succ, get_lt, set_lt, get_len, get_len_add, set_len, set_len_add, List.append_assoc, List.cons_append, List.nil_append, -getElem?_pos, w5]
          exact ⟨_, by omega, hI _ _ _ ⟨rfl, k + 1, hlt, rfl, rfl⟩⟩
        · obtain rfl : k = L.length := by omega
          rw [List.take_length, ps]
          simp [wpk_skip, wpk_seq, k_cond, wpk_block, wpk_exit, wpk_ret, wpk_loop, k_ops, k_draw0, t_nil, t_cons, KT_eq, KD_eq, wpo_nil, k_cons, k_step, mt_some, mtk_some, KO_eq, KP_eq, K_normal, K_ret, K_exit, KB_normal, KB_ret, KB_exit, KL_normal, KL_ret, KL_exit, k_ret, k_normal, stepE, isCall, calleeE, opE, wantE, odE, odS, odL, odSL, fget, fput, initE, keepF, List.map_cons, List.map_nil, binE, intOp, strOp, shOp, unE, eqpE, eqnE, neqB, ressE, resE, packL, packE, flat1, fcells, fillE, setL, cellsOf_bind, cellsO_own, cellsO_ro, lenE_sl, lenE_nils, lenE_sl0, bound, rep, minE, maxE, List.getElem?_cons_zero, List.getElem?_cons_succ, get_lt, set_lt, get_len, get_len_add, set_len, set_len_add, List.append_assoc, List.cons_append, List.nil_append, -getElem?_pos, l6_2, l6_2_1, hlt]
          exact hΦ _ _ _ ⟨rfl, rfl, rfl⟩
      · rintro x fr' h3 ⟨rfl, rfl, rfl⟩
        have hnn : (n == n) = true := by simp
        simp [wpk_skip, wpk_seq, k_cond, wpk_block, wpk_exit, wpk_ret, wpk_loop, k_ops, k_draw0, t_nil, t_cons, KT_eq, KD_eq, wpo_nil, k_cons, k_step, mt_some, mtk_some, KO_eq, KP_eq, K_normal, K_ret, K_exit, KB_normal, KB_ret, KB_exit, KL_normal, KL_ret, KL_exit, k_ret, k_normal, stepE, isCall, calleeE, opE, wantE, odE, odS, odL, odSL, fget, fput, initE, keepF, List.map_cons, List.map_nil, binE, intOp, strOp, shOp, unE, eqpE, eqnE, neqB, ressE, resE, packL, packE, flat1, fcells, fillE, setL, cellsOf_bind, cellsO_own, cellsO_ro, lenE_sl, lenE_nils, lenE_sl0, bound, rep, minE, maxE, List.getElem?_cons_zero, List.getElem?_cons_succ, get_lt, set_lt, get_len, get_len_add, set_len, set_len_add, List.append_assoc, List.cons_append, List.nil_append, -getElem?_pos, s6_10, hnn]
        refine WPc.go (wakes_ok _) ?_
        rintro _ h4 ⟨g4, rfl⟩
        simp [wpk_skip, wpk_seq, k_cond, wpk_block, wpk_exit, wpk_ret, wpk_loop, k_ops, k_draw0, t_nil, t_cons, KT_eq, KD_eq, wpo_nil, k_cons, k_step, mt_some, mtk_some, KO_eq, KP_eq, K_normal, K_ret, K_exit, KB_normal, KB_ret, KB_exit, KL_normal, KL_ret, KL_exit, k_ret, k_normal, stepE, isCall, calleeE, opE, wantE, odE, odS, odL, odSL, fget, fput, initE, keepF, List.map_cons, List.map_nil, binE, intOp, strOp, shOp, unE, eqpE, eqnE, neqB, ressE, resE, packL, packE, flat1, fcells, fillE, setL, cellsOf_bind, cellsO_own, cellsO_ro, lenE_sl, lenE_nils, lenE_sl0, bound, rep, minE, maxE, List.getElem?_cons_zero, List.getElem?_cons_succ, get_lt, set_lt, get_len, get_len_add, set_len, set_len_add, List.append_assoc, List.cons_append, List.nil_append, -getElem?_pos]
        exact hΨ _ _ rfl
end Go.Proofs.Ytejoijjmlglhfaa.Ev.CS
