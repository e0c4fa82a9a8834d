/- The document's register: copies, a bucket that is set, one that moves, many. -/
import Derived.Test.YtcimcccnhbbncaaRegB
set_option linter.unusedSimpArgs false
set_option linter.unusedVariables false
namespace Go.Proofs.Ytcimcccnhbbncaa.Ev.CE
open Go

theorem bucket_ok (c y : Int) (hc : 1 ≤ c ∧ c ≤ 9) (hy : 0 ≤ y ∧ y ≤ 99) (h : LH) : callX C 51 [.s (.int .i64 c), .s (.int .i64 y)] h = some (.s (.bool true), h) := by
  apply callX_wp
  refine WPc.intro (e := e51) rfl (by simp [e51]) ?_
  show WPk C b51 _ _ (KR [.tmp 4] _)
  have r := year_ok y h
  rw [decide_eq_true hy] at r
  simp [wpk_skip, wpk_seq, k_cond, wpk_block, wpk_exit, wpk_ret, wpk_loop, k_ops, k_draw0, t_nil, t_cons, KT_eq, KD_eq, wpo_nil, k_cons, k_step, mt_some, mtk_some, KO_eq, KP_eq, K_normal, K_ret, K_exit, KB_normal, KB_ret, KB_exit, KL_normal, KL_ret, KL_exit, k_ret, k_normal, stepE, isCall, calleeE, opE, wantE, odE, odS, odL, odSL, fget, fput, initE, keepF, List.map_cons, List.map_nil, binE, intOp, strOp, shOp, unE, eqpE, eqnE, neqB, ressE, resE, packL, packE, flat1, fcells, fillE, setL, cellsOf_bind, cellsO_own, cellsO_ro, lenE_sl, lenE_nils, lenE_sl0, bound, rep, minE, maxE, List.getElem?_cons_zero, List.getElem?_cons_succ, get_lt, set_lt, get_len, get_len_add, set_len, set_len_add, List.append_assoc, List.cons_append, List.nil_append, -getElem?_pos, b51, s51_1, hc.1, hc.2, r]

theorem copy54_ok {h : LH} {i : Nat} {v : SV} {l : List Bu} (hi : h[i]? = some (.own 25 [v])) (rd : Rd h 30 3 encB v l) (hl : l.length < 1000) : WPc C 54 [.s (.ptr i 0)] h fun u h' => Gr h h' ∧ ∃ i' w, u = .s (.ptr i' 0) ∧ h.length ≤ i' ∧ h'[i']? = some (.own 25 [w]) ∧ Ow h.length h' 30 encB w l := by
  refine WPc.post fun Ψ hΨ => ?_
  refine WPc.intro (e := e54) rfl (by simp [e54]) ?_
  show WPk C b54 _ _ (KR [.tmp 2] _)
  obtain ⟨w, r', e, ow⟩ := copy_gen (y := 24) rd (by omega)
  have li := lt_of_some hi
  simp [wpk_skip, wpk_seq, k_cond, wpk_block, wpk_exit, wpk_ret, wpk_loop, k_ops, k_draw0, t_nil, t_cons, KT_eq, KD_eq, wpo_nil, k_cons, k_step, mt_some, mtk_some, KO_eq, KP_eq, K_normal, K_ret, K_exit, KB_normal, KB_ret, KB_exit, KL_normal, KL_ret, KL_exit, k_ret, k_normal, stepE, isCall, calleeE, opE, wantE, odE, odS, odL, odSL, fget, fput, initE, keepF, List.map_cons, List.map_nil, binE, intOp, strOp, shOp, unE, eqpE, eqnE, neqB, ressE, resE, packL, packE, flat1, fcells, fillE, setL, cellsOf_bind, cellsO_own, cellsO_ro, lenE_sl, lenE_nils, lenE_sl0, bound, rep, minE, maxE, List.getElem?_cons_zero, List.getElem?_cons_succ, get_lt, set_lt, get_len, get_len_add, set_len, set_len_add, List.append_assoc, List.cons_append, List.nil_append, -getElem?_pos, b54, s54_1, hi, li, rd.len, rd.elems, e]
  rw [← List.append_assoc]
  refine hΨ _ _ ⟨(Gr.self h r').app _, _, w, rfl, by simp, ?_, ow.gr (Gr.self _ _)⟩
  rw [show h.length + r'.length = (h ++ r').length by simp]
  exact get_len

set_option maxRecDepth 20000 in
set_option maxHeartbeats 4000000 in
theorem set55_ok {h : LH} {i : Nat} {v : SV} {l : List Bu} (hi : h[i]? = some (.own 25 [v])) (rd : Rd h 30 3 encB v l) (hl : l.length < 1000) (c y n : Int) :
    WPc C 55 [.s (.ptr i 0), .s (.int .i64 c), .s (.int .i64 y), .s (.int .i64 n)] h fun u h' => GrBut i h h' ∧ ∃ w, h'[i]? = some (.own 25 [w]) ∧ Ow h.length h' 30 encB w (setF c y n l) := by
  refine WPc.post fun Ψ hΨ => ?_
  refine WPc.intro (e := e55) rfl (by simp [e55]) ?_
  show WPk C b55 _ _ (KR [] _)
  have li := lt_of_some hi
  simp [wpk_skip, wpk_seq, k_cond, wpk_block, wpk_exit, wpk_ret, wpk_loop, k_ops, k_draw0, t_nil, t_cons, KT_eq, KD_eq, wpo_nil, k_cons, k_step, mt_some, mtk_some, KO_eq, KP_eq, K_normal, K_ret, K_exit, KB_normal, KB_ret, KB_exit, KL_normal, KL_ret, KL_exit, k_ret, k_normal, stepE, isCall, calleeE, opE, wantE, odE, odS, odL, odSL, fget, fput, initE, keepF, List.map_cons, List.map_nil, binE, intOp, strOp, shOp, unE, eqpE, eqnE, neqB, ressE, resE, packL, packE, flat1, fcells, fillE, setL, cellsOf_bind, cellsO_own, cellsO_ro, lenE_sl, lenE_nils, lenE_sl0, bound, rep, minE, maxE, List.getElem?_cons_zero, List.getElem?_cons_succ, get_lt, set_lt, get_len, get_len_add, set_len, set_len_add, List.append_assoc, List.cons_append, List.nil_append, -getElem?_pos, b55, s55_3, s55_2, s55_1, hi, li, rd.len]
  refine WPl.post (fun x fr' h' => x = .exit 0 ∧ Gr h h' ∧ ∃ w, fr' = [(0, some (.s (.ptr i 0))), (1, some (.s (.int .i64 c))), (2, some (.s (.int .i64 y))), (3, some (.s (.int .i64 n))), (8, some (.s w)), (9, some (.s (.bool (l.foldl (stepS c y n) ([], n == 0)).2)))] ∧ Ow h.length h' 30 encB w (l.foldl (stepS c y n) ([], n == 0)).1) (fun Φ hΦ => ?_) ?_
  · refine WPl.inv2 (fun m fr h' => Gr h h' ∧ ∃ k w, k ≤ l.length ∧ m = l.length - k ∧ Ow h.length h' 30 encB w ((l.take k).foldl (stepS c y n) ([], n == 0)).1 ∧
      fr = [(0, some (.s (.ptr i 0))), (1, some (.s (.int .i64 c))), (2, some (.s (.int .i64 y))), (3, some (.s (.int .i64 n))), (8, some (.s w)), (9, some (.s (.bool ((l.take k).foldl (stepS c y n) ([], n == 0)).2))), (17, some (.s v)), (18, some (.s (.int .i64 l.length))), (19, some (.s (.int .i64 k)))]) ?_ _ _ _ ⟨Gr.refl _, 0, .nils, Nat.zero_le _, rfl, Ow.nil _ _, by simp⟩
    rintro I hI m fr h' ⟨gr, k, w, hk, rfl, ow, rfl⟩
    refine ⟨by simp [keepF, fget], ?_⟩
    by_cases hlt : k < l.length
    · have hf : (l.take (k + 1)).foldl (stepS c y n) ([], n == 0) = stepS c y n ((l.take k).foldl (stepS c y n) ([], n == 0)) l[k] := by rw [List.take_succ_eq_append_getElem hlt, List.foldl_append]; rfl
      have hfl := foldS_len c y n (l.take k) ([], n == 0)
      have hfl' : ((l.take k).foldl (stepS c y n) ([], n == 0)).1.length ≤ k + 1 := by
        simp only [List.length_nil, List.length_take] at hfl
        split at hfl <;> omega
      generalize (l.take k).foldl (stepS c y n) ([], n == 0) = s at hf hfl' ow
      obtain ⟨acc, d⟩ := s
      simp only at ow hfl'
      obtain ⟨j0, p0, q0, ob0, vs0, rfl, c1, c2, c3, c4, -⟩ := (rd.gr gr).at encB_len hlt
      have c5 := lt_of_some c1
      simp only [encB] at c4
      have w3 : IntKind.i64.wrap ((k : Int) + 1) = ((k + 1 : Nat) : Int) := wrap_small (by omega) (by omega)
      have hA := ow.app1 (y := 24) encB_len (by omega)
      have hK := ow.kill_new0
      generalize l[k] = x at *
      have skip : stepS c y n (acc, d) x = (acc, d) → ∃ m, m < l.length - k ∧ I m [(0, some (.s (.ptr i 0))), (1, some (.s (.int .i64 c))), (2, some (.s (.int .i64 y))), (3, some (.s (.int .i64 n))), (8, some (.s w)), (9, some (.s (.bool d))), (17, some (.s (.sl j0 p0 q0 l.length))), (18, some (.s (.int .i64 l.length))), (19, some (.s (.int .i64 ((k : Int) + 1))))]
          (h' ++ [LO.own 30 [.int .i64 x.c, .int .i64 x.y, .int .i64 x.a]]) := by
        intro hf'
        rw [hf'] at hf
        exact ⟨_, by omega, hI _ _ _ ⟨gr.app _, k + 1, _, hlt, rfl, by rw [hf]; exact ow.gr (Gr.self _ _), by rw [hf]; rfl⟩⟩
      have one : stepS c y n (acc, d) x = (acc ++ [x], d) → ∃ m, m < l.length - k ∧ I m [(0, some (.s (.ptr i 0))), (1, some (.s (.int .i64 c))), (2, some (.s (.int .i64 y))), (3, some (.s (.int .i64 n))), (8, some (.s (.sl (h'.length + 2) 0 0 (acc.length + 1)))), (9, some (.s (.bool d))), (17, some (.s (.sl j0 p0 q0 l.length))), (18, some (.s (.int .i64 l.length))), (19, some (.s (.int .i64 ((k : Int) + 1))))]
          (kill w (h' ++ [LO.own 30 [.int .i64 x.c, .int .i64 x.y, .int .i64 x.a], LO.own 30 [.int .i64 x.c, .int .i64 x.y, .int .i64 x.a]]) ++ [LO.own 30 (acc.flatMap encB ++ [.int .i64 x.c, .int .i64 x.y, .int .i64 x.a])]) := by
        intro hf'
        rw [hf'] at hf
        obtain ⟨f1, f2⟩ := Ow.step gr ow x [LO.own 30 [.int .i64 x.c, .int .i64 x.y, .int .i64 x.a], LO.own 30 [.int .i64 x.c, .int .i64 x.y, .int .i64 x.a]] (m := 2) rfl rfl rfl
        exact ⟨_, by omega, hI _ _ _ ⟨f1, k + 1, _, hlt, rfl, by rw [hf]; exact f2, by rw [hf]; rfl⟩⟩
      cases d1 : isB c y x with
      | true =>
        have d2 := isB_iff.1 d1
        have e1 : (x.c == c) = true := by simp [d2.1]
        have e2 : (x.y == y) = true := by simp [d2.2]
        have fin := skip (by unfold stepS; rw [if_pos d1])
        simp [wpk_skip, wpk_seq, k_cond, wpk_block, wpk_exit, wpk_ret, wpk_loop, k_ops, k_draw0, t_nil, t_cons, KT_eq, KD_eq, wpo_nil, k_cons, k_step, mt_some, mtk_some, KO_eq, KP_eq, K_normal, K_ret, K_exit, KB_normal, KB_ret, KB_exit, KL_normal, KL_ret, KL_exit, k_ret, k_normal, stepE, isCall, calleeE, opE, wantE, odE, odS, odL, odSL, fget, fput, initE, keepF, List.map_cons, List.map_nil, binE, intOp, strOp, shOp, unE, eqpE, eqnE, neqB, ressE, resE, packL, packE, flat1, fcells, fillE, setL, cellsOf_bind, cellsO_own, cellsO_ro, lenE_sl, lenE_nils, lenE_sl0, bound, rep, minE, maxE, List.getElem?_cons_zero, List.getElem?_cons_succ, get_lt, set_lt, get_len, get_len_add, set_len, set_len_add, List.append_assoc, List.cons_append, List.nil_append, -getElem?_pos, l55_0_2, l55_0_1, l55_0, hlt, c1, c2, c3, c4, c5, w3, e1, e2]
        exact fin
      | false =>
        have e0 : (x.c == c) = false ∨ ((x.c == c) = true ∧ (x.y == y) = false) := by
          unfold isB at d1
          cases q : x.c == c with
          | false => exact .inl rfl
          | true => rw [q] at d1; exact .inr ⟨rfl, by simpa using d1⟩
        cases d with
        | true =>
          have fin := one (by unfold stepS; rw [d1]; simp)
          rcases e0 with e1 | ⟨e1, e2⟩
          · simp [wpk_skip, wpk_seq, k_cond, wpk_block, wpk_exit, wpk_ret, wpk_loop, k_ops, k_draw0, t_nil, t_cons, KT_eq, KD_eq, wpo_nil, k_cons, k_step, mt_some, mtk_some, KO_eq, KP_eq, K_normal, K_ret, K_exit, KB_normal, KB_ret, KB_exit, KL_normal, KL_ret, KL_exit, k_ret, k_normal, stepE, isCall, calleeE, opE, wantE, odE, odS, odL, odSL, fget, fput, initE, keepF, List.map_cons, List.map_nil, binE, intOp, strOp, shOp, unE, eqpE, eqnE, neqB, ressE, resE, packL, packE, flat1, fcells, fillE, setL, cellsOf_bind, cellsO_own, cellsO_ro, lenE_sl, lenE_nils, lenE_sl0, bound, rep, minE, maxE, List.getElem?_cons_zero, List.getElem?_cons_succ, get_lt, set_lt, get_len, get_len_add, set_len, set_len_add, List.append_assoc, List.cons_append, List.nil_append, -getElem?_pos, l55_0_2, l55_0_1, l55_0, hlt, c1, c2, c3, c4, c5, w3, e1, elems, hA]
            exact fin
          · simp [wpk_skip, wpk_seq, k_cond, wpk_block, wpk_exit, wpk_ret, wpk_loop, k_ops, k_draw0, t_nil, t_cons, KT_eq, KD_eq, wpo_nil, k_cons, k_step, mt_some, mtk_some, KO_eq, KP_eq, K_normal, K_ret, K_exit, KB_normal, KB_ret, KB_exit, KL_normal, KL_ret, KL_exit, k_ret, k_normal, stepE, isCall, calleeE, opE, wantE, odE, odS, odL, odSL, fget, fput, initE, keepF, List.map_cons, List.map_nil, binE, intOp, strOp, shOp, unE, eqpE, eqnE, neqB, ressE, resE, packL, packE, flat1, fcells, fillE, setL, cellsOf_bind, cellsO_own, cellsO_ro, lenE_sl, lenE_nils, lenE_sl0, bound, rep, minE, maxE, List.getElem?_cons_zero, List.getElem?_cons_succ, get_lt, set_lt, get_len, get_len_add, set_len, set_len_add, List.append_assoc, List.cons_append, List.nil_append, -getElem?_pos, l55_0_2, l55_0_1, l55_0, hlt, c1, c2, c3, c4, c5, w3, e1, e2, elems, hA]
            exact fin
        | false =>
          by_cases d2 : Lt c y x
          · have hf' : stepS c y n (acc, false) x = (acc ++ [⟨c, y, n⟩, x], true) := by unfold stepS; rw [d1, if_neg (by simp), if_pos ⟨rfl, d2⟩]
            rw [hf'] at hf
            obtain ⟨f1, f2⟩ := Ow.step gr ow ⟨c, y, n⟩ [LO.own 30 [.int .i64 x.c, .int .i64 x.y, .int .i64 x.a], LO.own 30 [.int .i64 c, .int .i64 y, .int .i64 n]] (cs := [.int .i64 c, .int .i64 y, .int .i64 n]) (m := 2) rfl rfl rfl
            obtain ⟨acc2, hacc2⟩ : ∃ a, a = acc ++ [(⟨c, y, n⟩ : Bu)] := ⟨_, rfl⟩
            have hl2 : acc2.length = acc.length + 1 := by rw [hacc2]; simp
            rw [← hacc2] at f2
            have hA2 := f2.app1 (y := 24) encB_len (by omega)
            obtain ⟨g1', g2'⟩ := Ow.step f1 f2 x [LO.own 30 [.int .i64 x.c, .int .i64 x.y, .int .i64 x.a]] (n := acc2.length + 1) (cs := [.int .i64 x.c, .int .i64 x.y, .int .i64 x.a]) (m := 1) rfl rfl rfl
            simp at hA2 g1' g2'
            have hfin : (l.take (k + 1)).foldl (stepS c y n) ([], n == 0) = (acc2 ++ [x], true) := by rw [hf, hacc2]; simp
            have two := fun fr0 (hfr : fr0 = _) => hI (l.length - (k + 1)) fr0 _ ⟨g1', k + 1, _, hlt, rfl, by rw [hfin]; exact g2', hfr⟩
            rw [hfin] at two
            unfold Lt at d2
            rcases d2 with d2 | d2
            · rcases e0 with e1 | ⟨e1, e2⟩
              · simp [wpk_skip, wpk_seq, k_cond, wpk_block, wpk_exit, wpk_ret, wpk_loop, k_ops, k_draw0, t_nil, t_cons, KT_eq, KD_eq, wpo_nil, k_cons, k_step, mt_some, mtk_some, KO_eq, KP_eq, K_normal, K_ret, K_exit, KB_normal, KB_ret, KB_exit, KL_normal, KL_ret, KL_exit, k_ret, k_normal, stepE, isCall, calleeE, opE, wantE, odE, odS, odL, odSL, fget, fput, initE, keepF, List.map_cons, List.map_nil, binE, intOp, strOp, shOp, unE, eqpE, eqnE, neqB, ressE, resE, packL, packE, flat1, fcells, fillE, setL, cellsOf_bind, cellsO_own, cellsO_ro, lenE_sl, lenE_nils, lenE_sl0, bound, rep, minE, maxE, List.getElem?_cons_zero, List.getElem?_cons_succ, get_lt, set_lt, get_len, get_len_add, set_len, set_len_add, List.append_assoc, List.cons_append, List.nil_append, -getElem?_pos, l55_0_2, l55_0_1, l55_0, hlt, c1, c2, c3, c4, c5, w3, e1, d2, elems, hA, hA2, hK]
                exact ⟨_, by omega, two _ rfl⟩
              · simp [wpk_skip, wpk_seq, k_cond, wpk_block, wpk_exit, wpk_ret, wpk_loop, k_ops, k_draw0, t_nil, t_cons, KT_eq, KD_eq, wpo_nil, k_cons, k_step, mt_some, mtk_some, KO_eq, KP_eq, K_normal, K_ret, K_exit, KB_normal, KB_ret, KB_exit, KL_normal, KL_ret, KL_exit, k_ret, k_normal, stepE, isCall, calleeE, opE, wantE, odE, odS, odL, odSL, fget, fput, initE, keepF, List.map_cons, List.map_nil, binE, intOp, strOp, shOp, unE, eqpE, eqnE, neqB, ressE, resE, packL, packE, flat1, fcells, fillE, setL, cellsOf_bind, cellsO_own, cellsO_ro, lenE_sl, lenE_nils, lenE_sl0, bound, rep, minE, maxE, List.getElem?_cons_zero, List.getElem?_cons_succ, get_lt, set_lt, get_len, get_len_add, set_len, set_len_add, List.append_assoc, List.cons_append, List.nil_append, -getElem?_pos, l55_0_2, l55_0_1, l55_0, hlt, c1, c2, c3, c4, c5, w3, e1, e2, d2, elems, hA, hA2, hK]
                exact ⟨_, by omega, two _ rfl⟩
            · obtain ⟨d3, d4⟩ := d2
              have e1 : (x.c == c) = true := by simp [d3]
              have e2 : (x.y == y) = false := by
                have : x.y ≠ y := by omega
                simpa using this
              have e3 : ¬ c < x.c := by omega
              simp [wpk_skip, wpk_seq, k_cond, wpk_block, wpk_exit, wpk_ret, wpk_loop, k_ops, k_draw0, t_nil, t_cons, KT_eq, KD_eq, wpo_nil, k_cons, k_step, mt_some, mtk_some, KO_eq, KP_eq, K_normal, K_ret, K_exit, KB_normal, KB_ret, KB_exit, KL_normal, KL_ret, KL_exit, k_ret, k_normal, stepE, isCall, calleeE, opE, wantE, odE, odS, odL, odSL, fget, fput, initE, keepF, List.map_cons, List.map_nil, binE, intOp, strOp, shOp, unE, eqpE, eqnE, neqB, ressE, resE, packL, packE, flat1, fcells, fillE, setL, cellsOf_bind, cellsO_own, cellsO_ro, lenE_sl, lenE_nils, lenE_sl0, bound, rep, minE, maxE, List.getElem?_cons_zero, List.getElem?_cons_succ, get_lt, set_lt, get_len, get_len_add, set_len, set_len_add, List.append_assoc, List.cons_append, List.nil_append, -getElem?_pos, l55_0_2, l55_0_1, l55_0, hlt, c1, c2, c3, c4, c5, w3, e1, e2, e3, d4, elems, hA, hA2, hK]
              exact ⟨_, by omega, two _ rfl⟩
          · have fin := one (by unfold stepS; rw [d1, if_neg (by simp), if_neg (fun q => d2 q.2)])
            unfold Lt at d2
            have e3 : ¬ c < x.c := by omega
            rcases e0 with e1 | ⟨e1, e2⟩
            · simp [wpk_skip, wpk_seq, k_cond, wpk_block, wpk_exit, wpk_ret, wpk_loop, k_ops, k_draw0, t_nil, t_cons, KT_eq, KD_eq, wpo_nil, k_cons, k_step, mt_some, mtk_some, KO_eq, KP_eq, K_normal, K_ret, K_exit, KB_normal, KB_ret, KB_exit, KL_normal, KL_ret, KL_exit, k_ret, k_normal, stepE, isCall, calleeE, opE, wantE, odE, odS, odL, odSL, fget, fput, initE, keepF, List.map_cons, List.map_nil, binE, intOp, strOp, shOp, unE, eqpE, eqnE, neqB, ressE, resE, packL, packE, flat1, fcells, fillE, setL, cellsOf_bind, cellsO_own, cellsO_ro, lenE_sl, lenE_nils, lenE_sl0, bound, rep, minE, maxE, List.getElem?_cons_zero, List.getElem?_cons_succ, get_lt, set_lt, get_len, get_len_add, set_len, set_len_add, List.append_assoc, List.cons_append, List.nil_append, -getElem?_pos, l55_0_2, l55_0_1, l55_0, hlt, c1, c2, c3, c4, c5, w3, e1, e3, elems, hA]
              exact fin
            · have e1' : x.c = c := by simpa using e1
              have e4 : ¬ y < x.y := by omega
              simp [wpk_skip, wpk_seq, k_cond, wpk_block, wpk_exit, wpk_ret, wpk_loop, k_ops, k_draw0, t_nil, t_cons, KT_eq, KD_eq, wpo_nil, k_cons, k_step, mt_some, mtk_some, KO_eq, KP_eq, K_normal, K_ret, K_exit, KB_normal, KB_ret, KB_exit, KL_normal, KL_ret, KL_exit, k_ret, k_normal, stepE, isCall, calleeE, opE, wantE, odE, odS, odL, odSL, fget, fput, initE, keepF, List.map_cons, List.map_nil, binE, intOp, strOp, shOp, unE, eqpE, eqnE, neqB, ressE, resE, packL, packE, flat1, fcells, fillE, setL, cellsOf_bind, cellsO_own, cellsO_ro, lenE_sl, lenE_nils, lenE_sl0, bound, rep, minE, maxE, List.getElem?_cons_zero, List.getElem?_cons_succ, get_lt, set_lt, get_len, get_len_add, set_len, set_len_add, List.append_assoc, List.cons_append, List.nil_append, -getElem?_pos, l55_0_2, l55_0_1, l55_0, hlt, c1, c2, c3, c4, c5, w3, e1, e2, e3, e4, elems, hA]
              exact fin
    · obtain rfl : k = l.length := by omega
      rw [List.take_length] at ow
      simp [wpk_skip, wpk_seq, k_cond, wpk_block, wpk_exit, wpk_ret, wpk_loop, k_ops, k_draw0, t_nil, t_cons, KT_eq, KD_eq, wpo_nil, k_cons, k_step, mt_some, mtk_some, KO_eq, KP_eq, K_normal, K_ret, K_exit, KB_normal, KB_ret, KB_exit, KL_normal, KL_ret, KL_exit, k_ret, k_normal, stepE, isCall, calleeE, opE, wantE, odE, odS, odL, odSL, fget, fput, initE, keepF, List.map_cons, List.map_nil, binE, intOp, strOp, shOp, unE, eqpE, eqnE, neqB, ressE, resE, packL, packE, flat1, fcells, fillE, setL, cellsOf_bind, cellsO_own, cellsO_ro, lenE_sl, lenE_nils, lenE_sl0, bound, rep, minE, maxE, List.getElem?_cons_zero, List.getElem?_cons_succ, get_lt, set_lt, get_len, get_len_add, set_len, set_len_add, List.append_assoc, List.cons_append, List.nil_append, -getElem?_pos, l55_0_2, l55_0_1, l55_0, hlt]
      exact hΦ _ _ _ ⟨rfl, gr, w, by simp, ow⟩
  · rintro x fr' h2 ⟨rfl, gr, w, rfl, ow⟩
    have hfl := foldS_len c y n l ([], n == 0)
    have hi2 := gr.get hi
    have hi3 := lt_of_some hi2
    unfold setF at hΨ
    have hfl' : (l.foldl (stepS c y n) ([], n == 0)).1.length ≤ l.length + 1 := by
      simp only [List.length_nil] at hfl
      split at hfl <;> omega
    generalize l.foldl (stepS c y n) ([], n == 0) = s at hfl' ow hΨ
    obtain ⟨acc, d⟩ := s
    simp only at hfl' ow hΨ
    cases d with
    | true =>
      simp only [if_true] at hΨ
      simp [wpk_skip, wpk_seq, k_cond, wpk_block, wpk_exit, wpk_ret, wpk_loop, k_ops, k_draw0, t_nil, t_cons, KT_eq, KD_eq, wpo_nil, k_cons, k_step, mt_some, mtk_some, KO_eq, KP_eq, K_normal, K_ret, K_exit, KB_normal, KB_ret, KB_exit, KL_normal, KL_ret, KL_exit, k_ret, k_normal, stepE, isCall, calleeE, opE, wantE, odE, odS, odL, odSL, fget, fput, initE, keepF, List.map_cons, List.map_nil, binE, intOp, strOp, shOp, unE, eqpE, eqnE, neqB, ressE, resE, packL, packE, flat1, fcells, fillE, setL, cellsOf_bind, cellsO_own, cellsO_ro, lenE_sl, lenE_nils, lenE_sl0, bound, rep, minE, maxE, List.getElem?_cons_zero, List.getElem?_cons_succ, get_lt, set_lt, get_len, get_len_add, set_len, set_len_add, List.append_assoc, List.cons_append, List.nil_append, -getElem?_pos, hi2]
      exact hΨ _ _ ⟨GrBut.set gr _, w, get_self hi3, ow.set li _⟩
    | false =>
      simp only [Bool.false_eq_true, if_false] at hΨ
      have hA := ow.app1 (y := 24) encB_len (by omega)
      obtain ⟨f1, f2⟩ := Ow.step gr ow ⟨c, y, n⟩ [LO.own 30 [.int .i64 c, .int .i64 y, .int .i64 n]] (n := acc.length + 1) (cs := [.int .i64 c, .int .i64 y, .int .i64 n]) (m := 1) rfl rfl rfl
      have k1 : ∀ q, i < (kill w (h2 ++ q)).length := fun q => by rw [kill_len, List.length_append]; omega
      have k2 : ∀ q, (kill w (h2 ++ q))[i]? = some (.own 25 [v]) := fun q => (kill_gr (gr.app q) (ow.gr (Gr.self h2 q))).get hi
      simp [wpk_skip, wpk_seq, k_cond, wpk_block, wpk_exit, wpk_ret, wpk_loop, k_ops, k_draw0, t_nil, t_cons, KT_eq, KD_eq, wpo_nil, k_cons, k_step, mt_some, mtk_some, KO_eq, KP_eq, K_normal, K_ret, K_exit, KB_normal, KB_ret, KB_exit, KL_normal, KL_ret, KL_exit, k_ret, k_normal, stepE, isCall, calleeE, opE, wantE, odE, odS, odL, odSL, fget, fput, initE, keepF, List.map_cons, List.map_nil, binE, intOp, strOp, shOp, unE, eqpE, eqnE, neqB, ressE, resE, packL, packE, flat1, fcells, fillE, setL, cellsOf_bind, cellsO_own, cellsO_ro, lenE_sl, lenE_nils, lenE_sl0, bound, rep, minE, maxE, List.getElem?_cons_zero, List.getElem?_cons_succ, get_lt, set_lt, get_len, get_len_add, set_len, set_len_add, List.append_assoc, List.cons_append, List.nil_append, -getElem?_pos, elems, hA, k1, k2]
      rw [← set_lt (k1 _)]
      exact hΨ _ _ ⟨GrBut.set f1 _, _, get_self (by rw [List.length_append, kill_len, List.length_append]; omega), f2.set li _⟩

set_option maxRecDepth 20000 in
set_option maxHeartbeats 4000000 in
theorem move37_ok {b : Nat} {h : LH} {i : Nat} {v : SV} {l : List Bu} (hb : b ≤ i) (hi : h[i]? = some (.own 25 [v])) (ow : Ow b h 30 encB v l) (g : GoodB l) {c y n : Int} (hc : 1 ≤ c ∧ c ≤ 9) (hy : 0 ≤ y ∧ y ≤ 99) :
    WPc C 37 [.s (.ptr i 0), .s (.int .i64 c), .s (.int .i64 y), .s (.int .i64 n)] h fun u h' => GrBut i h h' ∧ ∃ v' l', h'[i]? = some (.own 25 [v']) ∧ Ow b h' 30 encB v' l' ∧ GoodB l' := by
  refine WPc.post fun Ψ hΨ => ?_
  refine WPc.intro (e := e37) rfl (by simp [e37]) ?_
  show WPk C b37 _ _ (KR [.tmp 8] _)
  have li := lt_of_some hi
  have hl := g.len
  have rd := ow.rd encB_len
  have b1 := bucket_ok c y hc hy
  have m1 := fun h => rmoney_ok n h
  have stay : ∀ e h', Gr h h' → Ψ (.s (.int .i64 e)) h' := fun e h' gr => hΨ _ _ ⟨gr.but i, v, l, gr.get hi, ow.gr gr, g⟩
  by_cases hn : -100000000000 ≤ n ∧ n ≤ 100000000000
  case neg =>
    rw [decide_eq_false hn] at m1
    simp [wpk_skip, wpk_seq, k_cond, wpk_block, wpk_exit, wpk_ret, wpk_loop, k_ops, k_draw0, t_nil, t_cons, KT_eq, KD_eq, wpo_nil, k_cons, k_step, mt_some, mtk_some, KO_eq, KP_eq, K_normal, K_ret, K_exit, KB_normal, KB_ret, KB_exit, KL_normal, KL_ret, KL_exit, k_ret, k_normal, stepE, isCall, calleeE, opE, wantE, odE, odS, odL, odSL, fget, fput, initE, keepF, List.map_cons, List.map_nil, binE, intOp, strOp, shOp, unE, eqpE, eqnE, neqB, ressE, resE, packL, packE, flat1, fcells, fillE, setL, cellsOf_bind, cellsO_own, cellsO_ro, lenE_sl, lenE_nils, lenE_sl0, bound, rep, minE, maxE, List.getElem?_cons_zero, List.getElem?_cons_succ, get_lt, set_lt, get_len, get_len_add, set_len, set_len_add, List.append_assoc, List.cons_append, List.nil_append, -getElem?_pos, b37, s37_1, b1, m1]
    exact stay _ _ (Gr.refl _)
  rw [decide_eq_true hn] at m1
  simp [wpk_skip, wpk_seq, k_cond, wpk_block, wpk_exit, wpk_ret, wpk_loop, k_ops, k_draw0, t_nil, t_cons, KT_eq, KD_eq, wpo_nil, k_cons, k_step, mt_some, mtk_some, KO_eq, KP_eq, K_normal, K_ret, K_exit, KB_normal, KB_ret, KB_exit, KL_normal, KL_ret, KL_exit, k_ret, k_normal, stepE, isCall, calleeE, opE, wantE, odE, odS, odL, odSL, fget, fput, initE, keepF, List.map_cons, List.map_nil, binE, intOp, strOp, shOp, unE, eqpE, eqnE, neqB, ressE, resE, packL, packE, flat1, fcells, fillE, setL, cellsOf_bind, cellsO_own, cellsO_ro, lenE_sl, lenE_nils, lenE_sl0, bound, rep, minE, maxE, List.getElem?_cons_zero, List.getElem?_cons_succ, get_lt, set_lt, get_len, get_len_add, set_len, set_len_add, List.append_assoc, List.cons_append, List.nil_append, -getElem?_pos, b37, s37_1, s37_2, b1, m1]
  refine WPc.go (get52_ok hi rd (by omega) c y) ?_
  rintro _ h1 ⟨g1, rfl⟩
  have gb := get_bound (c := c) (y := y) g.mon
  have gs := g.sum
  have w1 : IntKind.i64.wrap (getF c y l + n) = getF c y l + n := wrap_small (by omega) (by omega)
  have m2 := fun h => rmoney_ok (getF c y l + n) h
  by_cases hn2 : -100000000000 ≤ getF c y l + n ∧ getF c y l + n ≤ 100000000000
  case neg =>
    rw [decide_eq_false hn2] at m2
    simp [wpk_skip, wpk_seq, k_cond, wpk_block, wpk_exit, wpk_ret, wpk_loop, k_ops, k_draw0, t_nil, t_cons, KT_eq, KD_eq, wpo_nil, k_cons, k_step, mt_some, mtk_some, KO_eq, KP_eq, K_normal, K_ret, K_exit, KB_normal, KB_ret, KB_exit, KL_normal, KL_ret, KL_exit, k_ret, k_normal, stepE, isCall, calleeE, opE, wantE, odE, odS, odL, odSL, fget, fput, initE, keepF, List.map_cons, List.map_nil, binE, intOp, strOp, shOp, unE, eqpE, eqnE, neqB, ressE, resE, packL, packE, flat1, fcells, fillE, setL, cellsOf_bind, cellsO_own, cellsO_ro, lenE_sl, lenE_nils, lenE_sl0, bound, rep, minE, maxE, List.getElem?_cons_zero, List.getElem?_cons_succ, get_lt, set_lt, get_len, get_len_add, set_len, set_len_add, List.append_assoc, List.cons_append, List.nil_append, -getElem?_pos, w1, m2]
    exact stay _ _ g1
  rw [decide_eq_true hn2] at m2
  have hi1 := g1.get hi
  simp [wpk_skip, wpk_seq, k_cond, wpk_block, wpk_exit, wpk_ret, wpk_loop, k_ops, k_draw0, t_nil, t_cons, KT_eq, KD_eq, wpo_nil, k_cons, k_step, mt_some, mtk_some, KO_eq, KP_eq, K_normal, K_ret, K_exit, KB_normal, KB_ret, KB_exit, KL_normal, KL_ret, KL_exit, k_ret, k_normal, stepE, isCall, calleeE, opE, wantE, odE, odS, odL, odSL, fget, fput, initE, keepF, List.map_cons, List.map_nil, binE, intOp, strOp, shOp, unE, eqpE, eqnE, neqB, ressE, resE, packL, packE, flat1, fcells, fillE, setL, cellsOf_bind, cellsO_own, cellsO_ro, lenE_sl, lenE_nils, lenE_sl0, bound, rep, minE, maxE, List.getElem?_cons_zero, List.getElem?_cons_succ, get_lt, set_lt, get_len, get_len_add, set_len, set_len_add, List.append_assoc, List.cons_append, List.nil_append, -getElem?_pos, w1, m2]
  refine WPc.go (total53_ok hi1 (rd.gr g1) g) ?_
  rintro _ h2 ⟨g2, rfl⟩
  have w2 : IntKind.i64.wrap ((amts l).sum + n) = (amts l).sum + n := wrap_small (by omega) (by omega)
  have m3 := fun h => rmoney_ok ((amts l).sum + n) h
  by_cases hn3 : -100000000000 ≤ (amts l).sum + n ∧ (amts l).sum + n ≤ 100000000000
  case neg =>
    rw [decide_eq_false hn3] at m3
    simp [wpk_skip, wpk_seq, k_cond, wpk_block, wpk_exit, wpk_ret, wpk_loop, k_ops, k_draw0, t_nil, t_cons, KT_eq, KD_eq, wpo_nil, k_cons, k_step, mt_some, mtk_some, KO_eq, KP_eq, K_normal, K_ret, K_exit, KB_normal, KB_ret, KB_exit, KL_normal, KL_ret, KL_exit, k_ret, k_normal, stepE, isCall, calleeE, opE, wantE, odE, odS, odL, odSL, fget, fput, initE, keepF, List.map_cons, List.map_nil, binE, intOp, strOp, shOp, unE, eqpE, eqnE, neqB, ressE, resE, packL, packE, flat1, fcells, fillE, setL, cellsOf_bind, cellsO_own, cellsO_ro, lenE_sl, lenE_nils, lenE_sl0, bound, rep, minE, maxE, List.getElem?_cons_zero, List.getElem?_cons_succ, get_lt, set_lt, get_len, get_len_add, set_len, set_len_add, List.append_assoc, List.cons_append, List.nil_append, -getElem?_pos, w2, m3]
    exact stay _ _ (g1.trans g2)
  rw [decide_eq_true hn3] at m3
  have g02 := g1.trans g2
  have hi2 := g02.get hi
  simp [wpk_skip, wpk_seq, k_cond, wpk_block, wpk_exit, wpk_ret, wpk_loop, k_ops, k_draw0, t_nil, t_cons, KT_eq, KD_eq, wpo_nil, k_cons, k_step, mt_some, mtk_some, KO_eq, KP_eq, K_normal, K_ret, K_exit, KB_normal, KB_ret, KB_exit, KL_normal, KL_ret, KL_exit, k_ret, k_normal, stepE, isCall, calleeE, opE, wantE, odE, odS, odL, odSL, fget, fput, initE, keepF, List.map_cons, List.map_nil, binE, intOp, strOp, shOp, unE, eqpE, eqnE, neqB, ressE, resE, packL, packE, flat1, fcells, fillE, setL, cellsOf_bind, cellsO_own, cellsO_ro, lenE_sl, lenE_nils, lenE_sl0, bound, rep, minE, maxE, List.getElem?_cons_zero, List.getElem?_cons_succ, get_lt, set_lt, get_len, get_len_add, set_len, set_len_add, List.append_assoc, List.cons_append, List.nil_append, -getElem?_pos, w2, m3, s37_3]
  refine WPc.go (copy54_ok hi2 (rd.gr g02) (by omega)) ?_
  rintro _ h3 ⟨g3, i3, w3, rfl, hge, hi3, ow3⟩
  have g03 := g02.trans g3
  simp [wpk_skip, wpk_seq, k_cond, wpk_block, wpk_exit, wpk_ret, wpk_loop, k_ops, k_draw0, t_nil, t_cons, KT_eq, KD_eq, wpo_nil, k_cons, k_step, mt_some, mtk_some, KO_eq, KP_eq, K_normal, K_ret, K_exit, KB_normal, KB_ret, KB_exit, KL_normal, KL_ret, KL_exit, k_ret, k_normal, stepE, isCall, calleeE, opE, wantE, odE, odS, odL, odSL, fget, fput, initE, keepF, List.map_cons, List.map_nil, binE, intOp, strOp, shOp, unE, eqpE, eqnE, neqB, ressE, resE, packL, packE, flat1, fcells, fillE, setL, cellsOf_bind, cellsO_own, cellsO_ro, lenE_sl, lenE_nils, lenE_sl0, bound, rep, minE, maxE, List.getElem?_cons_zero, List.getElem?_cons_succ, get_lt, set_lt, get_len, get_len_add, set_len, set_len_add, List.append_assoc, List.cons_append, List.nil_append, -getElem?_pos, s37_4]
  refine WPc.go (get52_ok (g03.get hi) (rd.gr g03) (by omega) c y) ?_
  rintro _ h4 ⟨g4, rfl⟩
  simp [wpk_skip, wpk_seq, k_cond, wpk_block, wpk_exit, wpk_ret, wpk_loop, k_ops, k_draw0, t_nil, t_cons, KT_eq, KD_eq, wpo_nil, k_cons, k_step, mt_some, mtk_some, KO_eq, KP_eq, K_normal, K_ret, K_exit, KB_normal, KB_ret, KB_exit, KL_normal, KL_ret, KL_exit, k_ret, k_normal, stepE, isCall, calleeE, opE, wantE, odE, odS, odL, odSL, fget, fput, initE, keepF, List.map_cons, List.map_nil, binE, intOp, strOp, shOp, unE, eqpE, eqnE, neqB, ressE, resE, packL, packE, flat1, fcells, fillE, setL, cellsOf_bind, cellsO_own, cellsO_ro, lenE_sl, lenE_nils, lenE_sl0, bound, rep, minE, maxE, List.getElem?_cons_zero, List.getElem?_cons_succ, get_lt, set_lt, get_len, get_len_add, set_len, set_len_add, List.append_assoc, List.cons_append, List.nil_append, -getElem?_pos, w1]
  refine WPc.go (set55_ok (g4.get hi3) ((ow3.rd encB_len).gr g4) (by omega) c y (getF c y l + n)) ?_
  rintro _ h5 ⟨g5, w5, hi5, ow5⟩
  rw [setF_ins g.srt] at ow5
  have g05 : Gr h h5 := g5.gr (g03.trans g4) (by have := g02.le; omega)
  have hi05 := g05.get hi
  have hsum := insB_sum (c := c) (y := y) (n := getF c y l + n) l g.srt
  have good : (insB c y (getF c y l + n) l).length ≤ 12 → GoodB (insB c y (getF c y l + n) l) := fun hlen => goodB_set g (by omega) (by omega) hlen
  have l5 := lt_of_some hi05
  generalize insB c y (getF c y l + n) l = L at *
  by_cases hlen : 12 < L.length
  · have hlen' : (12 : Int) < (L.length : Int) := by omega
    simp [wpk_skip, wpk_seq, k_cond, wpk_block, wpk_exit, wpk_ret, wpk_loop, k_ops, k_draw0, t_nil, t_cons, KT_eq, KD_eq, wpo_nil, k_cons, k_step, mt_some, mtk_some, KO_eq, KP_eq, K_normal, K_ret, K_exit, KB_normal, KB_ret, KB_exit, KL_normal, KL_ret, KL_exit, k_ret, k_normal, stepE, isCall, calleeE, opE, wantE, odE, odS, odL, odSL, fget, fput, initE, keepF, List.map_cons, List.map_nil, binE, intOp, strOp, shOp, unE, eqpE, eqnE, neqB, ressE, resE, packL, packE, flat1, fcells, fillE, setL, cellsOf_bind, cellsO_own, cellsO_ro, lenE_sl, lenE_nils, lenE_sl0, bound, rep, minE, maxE, List.getElem?_cons_zero, List.getElem?_cons_succ, get_lt, set_lt, get_len, get_len_add, set_len, set_len_add, List.append_assoc, List.cons_append, List.nil_append, -getElem?_pos, s37_5, hi5, ow5.len, hlen']
    exact stay _ _ g05
  · have hlen' : ¬ (12 : Int) < (L.length : Int) := by omega
    simp [wpk_skip, wpk_seq, k_cond, wpk_block, wpk_exit, wpk_ret, wpk_loop, k_ops, k_draw0, t_nil, t_cons, KT_eq, KD_eq, wpo_nil, k_cons, k_step, mt_some, mtk_some, KO_eq, KP_eq, K_normal, K_ret, K_exit, KB_normal, KB_ret, KB_exit, KL_normal, KL_ret, KL_exit, k_ret, k_normal, stepE, isCall, calleeE, opE, wantE, odE, odS, odL, odSL, fget, fput, initE, keepF, List.map_cons, List.map_nil, binE, intOp, strOp, shOp, unE, eqpE, eqnE, neqB, ressE, resE, packL, packE, flat1, fcells, fillE, setL, cellsOf_bind, cellsO_own, cellsO_ro, lenE_sl, lenE_nils, lenE_sl0, bound, rep, minE, maxE, List.getElem?_cons_zero, List.getElem?_cons_succ, get_lt, set_lt, get_len, get_len_add, set_len, set_len_add, List.append_assoc, List.cons_append, List.nil_append, -getElem?_pos, s37_5, s37_6, s37_7, hi5, hi05, ow5.len, hlen']
    refine hΨ _ _ ⟨GrBut.set g05 _, w5, L, get_self l5, ?_, good (by omega)⟩
    have hl4 : b ≤ h4.length := by have := (g03.trans g4).le; omega
    have hi4 : i < h4.length := by have := (g03.trans g4).le; omega
    exact (ow5.set hi4 _).base hl4
end Go.Proofs.Ytcimcccnhbbncaa.Ev.CE
