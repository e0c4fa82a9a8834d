/- The document's table on the small machine. -/
import Derived.Test.YtcimcccnhbbncaaMsA
set_option linter.unusedSimpArgs false
set_option linter.unusedVariables false
namespace Go.Proofs.Ytcimcccnhbbncaa.Ev.CE
open Go

/-- A table of the document. -/
structure Rt (b : Nat) (h : LH) (i : Nat) (v : SV) (l : List Ro) : Prop where
  base : b ≤ i
  obj : h[i]? = some (.own 49 [v])
  rows : Ow b h 73 encR v l
  len : l.length ≤ 24
theorem Rt.gr {b : Nat} {h h' : LH} {i : Nat} {v : SV} {l : List Ro} (t : Rt b h i v l) (g : Gr h h') : Rt b h' i v l := ⟨t.base, g.get t.obj, t.rows.gr g, t.len⟩
theorem Ch.rbase {h0 h h' : LH} {i : Nat} {v : SV} {l : List Ro} (c : Ch i v h h') (t : Rt h0.length h i v l) (g : Gr h0 h) : Gr h0 h' := by
  refine ⟨Nat.le_trans g.le c.le, fun k hk => ?_⟩
  rw [c.same k (Nat.lt_of_lt_of_le hk g.le) (by have := t.base; omega) ?_, g.same k hk]
  rintro ⟨p, o, n, rfl⟩
  rcases t.rows with ⟨_, e⟩ | ⟨j, r1, r2, _⟩
  · cases e
  · cases r2; omega
theorem rnew_rt (h : LH) : Rt h.length (h ++ [.own 49 [.nils]]) h.length .nils [] := ⟨Nat.le_refl _, get_len, Ow.nil _ _, by simp⟩

set_option maxRecDepth 20000 in
set_option maxHeartbeats 4000000 in
theorem radd_ok {b : Nat} {h : LH} {i : Nat} {v : SV} {l : List Ro} (t : Rt b h i v l) (j : ByteArray) (y r p : Int) :
    WPc C 22 [.s (.ptr i 0), .s (.str j), .s (.int .i64 y), .s (.int .i64 r), .s (.int .i64 p)] h fun u h' => Ch i v h h' ∧ u = .s (.int .i64 (addR l j y r p).1) ∧ ∃ v', Rt b h' i v' (addR l j y r p).2 := by
  refine WPc.post fun Ψ hΨ => ?_
  refine WPc.intro (e := e22) rfl (by simp [e22]) ?_
  show WPk C b22 _ _ (KR [.tmp 10] _)
  have hi := lt_of_some t.obj
  have ti := t.obj
  have hb : b ≤ h.length := by have := t.base; omega
  unfold addR at hΨ
  have hle : l.length ≤ 24 := t.len
  have bad : argOk j y r p = false → Ψ (.s (.int .i64 1)) h := fun e => hΨ _ _ (by rw [if_pos e]; exact ⟨gr_ch (Gr.refl h) i v, rfl, v, t⟩)
  unfold argOk at bad
  cases e1 : j.toList.isEmpty with
  | true =>
    have := bad (by rw [e1]; rfl)
    have e0 : j.toList = [] := by simpa using e1
    simp [wpk_skip, wpk_seq, k_cond, wpk_block, wpk_exit, wpk_ret, wpk_loop, k_ops, k_draw0, t_nil, t_cons, KT_eq, KD_eq, wpo_nil, k_cons, k_step, mt_some, mtk_some, KO_eq, KP_eq, K_normal, K_ret, K_exit, KB_normal, KB_ret, KB_exit, KL_normal, KL_ret, KL_exit, k_ret, k_normal, stepE, isCall, calleeE, opE, wantE, odE, odS, odL, odSL, fget, fput, initE, keepF, List.map_cons, List.map_nil, binE, intOp, strOp, shOp, unE, eqpE, eqnE, neqB, ressE, resE, packL, packE, flat1, fcells, fillE, setL, cellsOf_bind, cellsO_own, cellsO_ro, lenE_sl, lenE_nils, lenE_sl0, bound, rep, minE, maxE, List.getElem?_cons_zero, List.getElem?_cons_succ, get_lt, set_lt, get_len, get_len_add, set_len, set_len_add, List.append_assoc, List.cons_append, List.nil_append, -getElem?_pos, b22, s22_1, e0, e1]
    exact this
  | false =>
  have e0 : ¬ j.toList = [] := by simpa using e1
  have q2 := fun h => year_ok y h
  have q3 := fun h => rright_ok r h
  have q4 := fun h => rperiod_ok p h
  by_cases e2 : 0 ≤ y ∧ y ≤ 99
  case neg =>
    have := bad (by rw [decide_eq_false e2]; simp)
    rw [decide_eq_false e2] at q2
    simp [wpk_skip, wpk_seq, k_cond, wpk_block, wpk_exit, wpk_ret, wpk_loop, k_ops, k_draw0, t_nil, t_cons, KT_eq, KD_eq, wpo_nil, k_cons, k_step, mt_some, mtk_some, KO_eq, KP_eq, K_normal, K_ret, K_exit, KB_normal, KB_ret, KB_exit, KL_normal, KL_ret, KL_exit, k_ret, k_normal, stepE, isCall, calleeE, opE, wantE, odE, odS, odL, odSL, fget, fput, initE, keepF, List.map_cons, List.map_nil, binE, intOp, strOp, shOp, unE, eqpE, eqnE, neqB, ressE, resE, packL, packE, flat1, fcells, fillE, setL, cellsOf_bind, cellsO_own, cellsO_ro, lenE_sl, lenE_nils, lenE_sl0, bound, rep, minE, maxE, List.getElem?_cons_zero, List.getElem?_cons_succ, get_lt, set_lt, get_len, get_len_add, set_len, set_len_add, List.append_assoc, List.cons_append, List.nil_append, -getElem?_pos, b22, s22_1, e0, e1, q2]
    exact this
  rw [decide_eq_true e2] at q2
  by_cases e3 : 0 ≤ r ∧ r ≤ 1000000
  case neg =>
    have := bad (by rw [decide_eq_false e3]; simp)
    rw [decide_eq_false e3] at q3
    simp [wpk_skip, wpk_seq, k_cond, wpk_block, wpk_exit, wpk_ret, wpk_loop, k_ops, k_draw0, t_nil, t_cons, KT_eq, KD_eq, wpo_nil, k_cons, k_step, mt_some, mtk_some, KO_eq, KP_eq, K_normal, K_ret, K_exit, KB_normal, KB_ret, KB_exit, KL_normal, KL_ret, KL_exit, k_ret, k_normal, stepE, isCall, calleeE, opE, wantE, odE, odS, odL, odSL, fget, fput, initE, keepF, List.map_cons, List.map_nil, binE, intOp, strOp, shOp, unE, eqpE, eqnE, neqB, ressE, resE, packL, packE, flat1, fcells, fillE, setL, cellsOf_bind, cellsO_own, cellsO_ro, lenE_sl, lenE_nils, lenE_sl0, bound, rep, minE, maxE, List.getElem?_cons_zero, List.getElem?_cons_succ, get_lt, set_lt, get_len, get_len_add, set_len, set_len_add, List.append_assoc, List.cons_append, List.nil_append, -getElem?_pos, b22, s22_1, e0, e1, q2, q3]
    exact this
  rw [decide_eq_true e3] at q3
  by_cases e5 : 0 ≤ p ∧ p ≤ 399
  case neg =>
    have := bad (by rw [decide_eq_false e5]; simp)
    rw [decide_eq_false e5] at q4
    simp [wpk_skip, wpk_seq, k_cond, wpk_block, wpk_exit, wpk_ret, wpk_loop, k_ops, k_draw0, t_nil, t_cons, KT_eq, KD_eq, wpo_nil, k_cons, k_step, mt_some, mtk_some, KO_eq, KP_eq, K_normal, K_ret, K_exit, KB_normal, KB_ret, KB_exit, KL_normal, KL_ret, KL_exit, k_ret, k_normal, stepE, isCall, calleeE, opE, wantE, odE, odS, odL, odSL, fget, fput, initE, keepF, List.map_cons, List.map_nil, binE, intOp, strOp, shOp, unE, eqpE, eqnE, neqB, ressE, resE, packL, packE, flat1, fcells, fillE, setL, cellsOf_bind, cellsO_own, cellsO_ro, lenE_sl, lenE_nils, lenE_sl0, bound, rep, minE, maxE, List.getElem?_cons_zero, List.getElem?_cons_succ, get_lt, set_lt, get_len, get_len_add, set_len, set_len_add, List.append_assoc, List.cons_append, List.nil_append, -getElem?_pos, b22, s22_1, e0, e1, q2, q3, q4]
    exact this
  rw [decide_eq_true e5] at q4
  have hok : argOk j y r p = true := by unfold argOk; rw [e1, decide_eq_true e2, decide_eq_true e3, decide_eq_true e5]; rfl
  rw [hok] at hΨ
  simp only [Bool.true_eq_false, if_false] at hΨ
  have rd := t.rows.rd encR_len
  simp [wpk_skip, wpk_seq, k_cond, wpk_block, wpk_exit, wpk_ret, wpk_loop, k_ops, k_draw0, t_nil, t_cons, KT_eq, KD_eq, wpo_nil, k_cons, k_step, mt_some, mtk_some, KO_eq, KP_eq, K_normal, K_ret, K_exit, KB_normal, KB_ret, KB_exit, KL_normal, KL_ret, KL_exit, k_ret, k_normal, stepE, isCall, calleeE, opE, wantE, odE, odS, odL, odSL, fget, fput, initE, keepF, List.map_cons, List.map_nil, binE, intOp, strOp, shOp, unE, eqpE, eqnE, neqB, ressE, resE, packL, packE, flat1, fcells, fillE, setL, cellsOf_bind, cellsO_own, cellsO_ro, lenE_sl, lenE_nils, lenE_sl0, bound, rep, minE, maxE, List.getElem?_cons_zero, List.getElem?_cons_succ, get_lt, set_lt, get_len, get_len_add, set_len, set_len_add, List.append_assoc, List.cons_append, List.nil_append, -getElem?_pos, b22, s22_1, s22_2, e0, e1, q2, q3, q4, ti, rd.len]
  refine WPl.post (fun x fr' h' => Gr h h' ∧ ((x = .ret ∧ l.any (sameR j y p) = true ∧ fr' = [(10, some (.s (.int .i64 4)))]) ∨ (x = .exit 0 ∧ l.any (sameR j y p) = false ∧ fr' = [(0, some (.s (.ptr i 0))), (1, some (.s (.str j))), (2, some (.s (.int .i64 y))), (3, some (.s (.int .i64 r))), (4, some (.s (.int .i64 p)))]))) (fun Φ hΦ => ?_) ?_
  · refine WPl.inv2 (fun n fr h' => Gr h h' ∧ ∃ k : Nat, k ≤ l.length ∧ n = l.length - k ∧ (l.drop k).any (sameR j y p) = l.any (sameR j y p) ∧
      fr = [(0, some (.s (.ptr i 0))), (1, some (.s (.str j))), (2, some (.s (.int .i64 y))), (3, some (.s (.int .i64 r))), (4, some (.s (.int .i64 p))), (33, some (.s v)), (34, some (.s (.int .i64 l.length))), (35, some (.s (.int .i64 k)))]) ?_ _ _ _ ⟨Gr.refl _, 0, Nat.zero_le _, rfl, rfl, rfl⟩
    rintro I hI n fr h' ⟨gr, k, hk, rfl, he, rfl⟩
    refine ⟨by simp [keepF, fget], ?_⟩
    by_cases hlt : k < l.length
    · obtain ⟨j0, p0, q0, ob0, vs0, rfl, c1, c2, c3, c4, -⟩ := (rd.gr gr).at encR_len hlt
      have c5 := lt_of_some c1
      rw [List.drop_eq_getElem_cons hlt, List.any_cons] at he
      have w3 : IntKind.i64.wrap ((k : Int) + 1) = ((k + 1 : Nat) : Int) := wrap_small (by omega) (by omega)
      simp only [encR] at c4
      generalize l[k] = x at *
      have go : sameR j y p x = false → ∃ m, m < l.length - k ∧ I m [(0, some (.s (.ptr i 0))), (1, some (.s (.str j))), (2, some (.s (.int .i64 y))), (3, some (.s (.int .i64 r))), (4, some (.s (.int .i64 p))), (33, some (.s (.sl j0 p0 q0 l.length))), (34, some (.s (.int .i64 l.length))), (35, some (.s (.int .i64 ((k : Int) + 1))))] (h' ++ [LO.own 73 [.str x.j, .int .i64 x.y, .int .i64 x.r, .int .i64 x.p]]) := by
        intro e
        rw [e, Bool.false_or] at he
        exact ⟨_, by omega, hI _ _ _ ⟨gr.app _, k + 1, hlt, rfl, he, rfl⟩⟩
      unfold sameR at go he
      cases f1 : x.j.toList == j.toList with
      | false =>
        have := go (by rw [f1]; rfl)
        have f1n : ¬ x.j.toList = j.toList := by simpa using f1
        simp [wpk_skip, wpk_seq, k_cond, wpk_block, wpk_exit, wpk_ret, wpk_loop, k_ops, k_draw0, t_nil, t_cons, KT_eq, KD_eq, wpo_nil, k_cons, k_step, mt_some, mtk_some, KO_eq, KP_eq, K_normal, K_ret, K_exit, KB_normal, KB_ret, KB_exit, KL_normal, KL_ret, KL_exit, k_ret, k_normal, stepE, isCall, calleeE, opE, wantE, odE, odS, odL, odSL, fget, fput, initE, keepF, List.map_cons, List.map_nil, binE, intOp, strOp, shOp, unE, eqpE, eqnE, neqB, ressE, resE, packL, packE, flat1, fcells, fillE, setL, cellsOf_bind, cellsO_own, cellsO_ro, lenE_sl, lenE_nils, lenE_sl0, bound, rep, minE, maxE, List.getElem?_cons_zero, List.getElem?_cons_succ, get_lt, set_lt, get_len, get_len_add, set_len, set_len_add, List.append_assoc, List.cons_append, List.nil_append, -getElem?_pos, l22_0_2, l22_0_1, l22_0, hlt, c1, c2, c3, c4, c5, f1, f1n, w3]
        exact this
      | true =>
      have f1n : x.j.toList = j.toList := by simpa using f1
      cases f2 : x.y == y with
      | false =>
        have := go (by rw [f1, f2]; rfl)
        simp [wpk_skip, wpk_seq, k_cond, wpk_block, wpk_exit, wpk_ret, wpk_loop, k_ops, k_draw0, t_nil, t_cons, KT_eq, KD_eq, wpo_nil, k_cons, k_step, mt_some, mtk_some, KO_eq, KP_eq, K_normal, K_ret, K_exit, KB_normal, KB_ret, KB_exit, KL_normal, KL_ret, KL_exit, k_ret, k_normal, stepE, isCall, calleeE, opE, wantE, odE, odS, odL, odSL, fget, fput, initE, keepF, List.map_cons, List.map_nil, binE, intOp, strOp, shOp, unE, eqpE, eqnE, neqB, ressE, resE, packL, packE, flat1, fcells, fillE, setL, cellsOf_bind, cellsO_own, cellsO_ro, lenE_sl, lenE_nils, lenE_sl0, bound, rep, minE, maxE, List.getElem?_cons_zero, List.getElem?_cons_succ, get_lt, set_lt, get_len, get_len_add, set_len, set_len_add, List.append_assoc, List.cons_append, List.nil_append, -getElem?_pos, l22_0_2, l22_0_1, l22_0, hlt, c1, c2, c3, c4, c5, f1, f1n, f2, w3]
        exact this
      | true =>
      cases f3 : x.p == p with
      | false =>
        have := go (by rw [f1, f2, f3]; rfl)
        simp [wpk_skip, wpk_seq, k_cond, wpk_block, wpk_exit, wpk_ret, wpk_loop, k_ops, k_draw0, t_nil, t_cons, KT_eq, KD_eq, wpo_nil, k_cons, k_step, mt_some, mtk_some, KO_eq, KP_eq, K_normal, K_ret, K_exit, KB_normal, KB_ret, KB_exit, KL_normal, KL_ret, KL_exit, k_ret, k_normal, stepE, isCall, calleeE, opE, wantE, odE, odS, odL, odSL, fget, fput, initE, keepF, List.map_cons, List.map_nil, binE, intOp, strOp, shOp, unE, eqpE, eqnE, neqB, ressE, resE, packL, packE, flat1, fcells, fillE, setL, cellsOf_bind, cellsO_own, cellsO_ro, lenE_sl, lenE_nils, lenE_sl0, bound, rep, minE, maxE, List.getElem?_cons_zero, List.getElem?_cons_succ, get_lt, set_lt, get_len, get_len_add, set_len, set_len_add, List.append_assoc, List.cons_append, List.nil_append, -getElem?_pos, l22_0_2, l22_0_1, l22_0, hlt, c1, c2, c3, c4, c5, f1, f1n, f2, f3, w3]
        exact this
      | true =>
        rw [f1, f2, f3] at he
        simp only [Bool.and_self, Bool.true_or] at he
        simp [wpk_skip, wpk_seq, k_cond, wpk_block, wpk_exit, wpk_ret, wpk_loop, k_ops, k_draw0, t_nil, t_cons, KT_eq, KD_eq, wpo_nil, k_cons, k_step, mt_some, mtk_some, KO_eq, KP_eq, K_normal, K_ret, K_exit, KB_normal, KB_ret, KB_exit, KL_normal, KL_ret, KL_exit, k_ret, k_normal, stepE, isCall, calleeE, opE, wantE, odE, odS, odL, odSL, fget, fput, initE, keepF, List.map_cons, List.map_nil, binE, intOp, strOp, shOp, unE, eqpE, eqnE, neqB, ressE, resE, packL, packE, flat1, fcells, fillE, setL, cellsOf_bind, cellsO_own, cellsO_ro, lenE_sl, lenE_nils, lenE_sl0, bound, rep, minE, maxE, List.getElem?_cons_zero, List.getElem?_cons_succ, get_lt, set_lt, get_len, get_len_add, set_len, set_len_add, List.append_assoc, List.cons_append, List.nil_append, -getElem?_pos, l22_0_2, l22_0_1, l22_0, hlt, c1, c2, c3, c4, c5, f1, f1n, f2, f3, w3]
        exact hΦ _ _ _ ⟨gr.app _, .inl ⟨rfl, he.symm, rfl⟩⟩
    · obtain rfl : k = l.length := by omega
      rw [List.drop_eq_nil_of_le (Nat.le_refl _)] at he
      simp [wpk_skip, wpk_seq, k_cond, wpk_block, wpk_exit, wpk_ret, wpk_loop, k_ops, k_draw0, t_nil, t_cons, KT_eq, KD_eq, wpo_nil, k_cons, k_step, mt_some, mtk_some, KO_eq, KP_eq, K_normal, K_ret, K_exit, KB_normal, KB_ret, KB_exit, KL_normal, KL_ret, KL_exit, k_ret, k_normal, stepE, isCall, calleeE, opE, wantE, odE, odS, odL, odSL, fget, fput, initE, keepF, List.map_cons, List.map_nil, binE, intOp, strOp, shOp, unE, eqpE, eqnE, neqB, ressE, resE, packL, packE, flat1, fcells, fillE, setL, cellsOf_bind, cellsO_own, cellsO_ro, lenE_sl, lenE_nils, lenE_sl0, bound, rep, minE, maxE, List.getElem?_cons_zero, List.getElem?_cons_succ, get_lt, set_lt, get_len, get_len_add, set_len, set_len_add, List.append_assoc, List.cons_append, List.nil_append, -getElem?_pos, l22_0_2, l22_0_1, l22_0, hlt]
      exact hΦ _ _ _ ⟨gr, .inr ⟨rfl, he.symm, rfl⟩⟩
  · rintro x fr' h1 ⟨g1, ⟨rfl, hq, rfl⟩ | ⟨rfl, hq, rfl⟩⟩
    · rw [hq] at hΨ
      simp only [if_true] at hΨ
      simp [wpk_skip, wpk_seq, k_cond, wpk_block, wpk_exit, wpk_ret, wpk_loop, k_ops, k_draw0, t_nil, t_cons, KT_eq, KD_eq, wpo_nil, k_cons, k_step, mt_some, mtk_some, KO_eq, KP_eq, K_normal, K_ret, K_exit, KB_normal, KB_ret, KB_exit, KL_normal, KL_ret, KL_exit, k_ret, k_normal, stepE, isCall, calleeE, opE, wantE, odE, odS, odL, odSL, fget, fput, initE, keepF, List.map_cons, List.map_nil, binE, intOp, strOp, shOp, unE, eqpE, eqnE, neqB, ressE, resE, packL, packE, flat1, fcells, fillE, setL, cellsOf_bind, cellsO_own, cellsO_ro, lenE_sl, lenE_nils, lenE_sl0, bound, rep, minE, maxE, List.getElem?_cons_zero, List.getElem?_cons_succ, get_lt, set_lt, get_len, get_len_add, set_len, set_len_add, List.append_assoc, List.cons_append, List.nil_append, -getElem?_pos, ]
      exact hΨ _ _ ⟨gr_ch g1 i v, rfl, v, t.gr g1⟩
    · rw [hq] at hΨ
      simp only [Bool.false_eq_true, if_false] at hΨ
      have t1 := t.gr g1
      have ti1 := t1.obj
      have hi1 := lt_of_some ti1
      by_cases hfull : 24 ≤ l.length
      · rw [if_pos hfull] at hΨ
        have hfull' : (24 : Int) ≤ (l.length : Int) := by omega
        simp [wpk_skip, wpk_seq, k_cond, wpk_block, wpk_exit, wpk_ret, wpk_loop, k_ops, k_draw0, t_nil, t_cons, KT_eq, KD_eq, wpo_nil, k_cons, k_step, mt_some, mtk_some, KO_eq, KP_eq, K_normal, K_ret, K_exit, KB_normal, KB_ret, KB_exit, KL_normal, KL_ret, KL_exit, k_ret, k_normal, stepE, isCall, calleeE, opE, wantE, odE, odS, odL, odSL, fget, fput, initE, keepF, List.map_cons, List.map_nil, binE, intOp, strOp, shOp, unE, eqpE, eqnE, neqB, ressE, resE, packL, packE, flat1, fcells, fillE, setL, cellsOf_bind, cellsO_own, cellsO_ro, lenE_sl, lenE_nils, lenE_sl0, bound, rep, minE, maxE, List.getElem?_cons_zero, List.getElem?_cons_succ, get_lt, set_lt, get_len, get_len_add, set_len, set_len_add, List.append_assoc, List.cons_append, List.nil_append, -getElem?_pos, s22_3, ti1, t1.rows.len, hfull']
        exact hΨ _ _ ⟨gr_ch g1 i v, rfl, v, t1⟩
      · rw [if_neg hfull] at hΨ
        have hfull' : ¬ (24 : Int) ≤ (l.length : Int) := by omega
        have hA := t1.rows.app1 (y := 40) encR_len (by omega)
        have k1 : ∀ q, i < (kill v (h1 ++ q)).length := fun q => by rw [kill_len, List.length_append]; omega
        have k3 : ∀ q, (kill v (h1 ++ q))[i]? = some (.own 49 [v]) := by
          intro q
          rcases t1.rows with ⟨_, rfl⟩ | ⟨j', r1, rfl, r3⟩
          · show (h1 ++ q)[i]? = _
            rw [get_lt hi1]; exact ti1
          · show ((h1 ++ q).set j' .dead)[i]? = _
            have hne : j' ≠ i := fun e => by
              subst e
              rw [ti1] at r3
              simp only [Option.some.injEq, LO.own.injEq] at r3
              exact absurd r3.1 (by decide)
            rw [get_ne hne, get_lt hi1]; exact ti1
        simp [wpk_skip, wpk_seq, k_cond, wpk_block, wpk_exit, wpk_ret, wpk_loop, k_ops, k_draw0, t_nil, t_cons, KT_eq, KD_eq, wpo_nil, k_cons, k_step, mt_some, mtk_some, KO_eq, KP_eq, K_normal, K_ret, K_exit, KB_normal, KB_ret, KB_exit, KL_normal, KL_ret, KL_exit, k_ret, k_normal, stepE, isCall, calleeE, opE, wantE, odE, odS, odL, odSL, fget, fput, initE, keepF, List.map_cons, List.map_nil, binE, intOp, strOp, shOp, unE, eqpE, eqnE, neqB, ressE, resE, packL, packE, flat1, fcells, fillE, setL, cellsOf_bind, cellsO_own, cellsO_ro, lenE_sl, lenE_nils, lenE_sl0, bound, rep, minE, maxE, List.getElem?_cons_zero, List.getElem?_cons_succ, get_lt, set_lt, get_len, get_len_add, set_len, set_len_add, List.append_assoc, List.cons_append, List.nil_append, -getElem?_pos, s22_3, s22_4, s22_5, ti1, hi1, t1.rows.len, hfull', elems, hA, k1, k3]
        rw [← set_lt (k1 _)]
        refine hΨ _ _ ⟨⟨?_, fun k hk hki hkv => ?_⟩, rfl, _, t.base, get_self (by rw [List.length_append, kill_len, List.length_append]; omega), ?_, by simp; omega⟩
        · rw [List.length_set, List.length_append, kill_len, List.length_append]; have := g1.le; omega
        · rw [get_ne (Ne.symm hki), get_lt (by rw [kill_len, List.length_append]; have := g1.le; omega)]
          have hk1 : k < h1.length := by have := g1.le; omega
          rcases t1.rows with ⟨_, rfl⟩ | ⟨j', r1, rfl, r3⟩
          · show (h1 ++ _)[k]? = _
            rw [get_lt hk1]; exact g1.same k hk
          · show ((h1 ++ _).set j' .dead)[k]? = _
            rw [get_ne (fun e => hkv ⟨_, _, _, by rw [e]⟩), get_lt hk1]; exact g1.same k hk
        · have hb1 : b ≤ h1.length := by have := g1.le; omega
          have := Ow.next (t := 73) (enc := encR) (v := v) (h := h1 ++ [LO.own 73 [.str j, .int .i64 y, .int .i64 r, .int .i64 p]]) (l := l) (new := [⟨j, y, r, p⟩]) (n := l.length + 1) (b := b) (by simp; omega) rfl
          refine Ow.set2 (by simpa [encR] using this) (fun p' o n e => ?_) _
          simp only [SV.sl.injEq] at e
          omega

/-- Rows as they are behind adds. -/
def Valid (l : List Ro) : Prop := l.length ≤ 24 ∧ ∀ k (hk : k < l.length), argOk l[k].j l[k].y l[k].r l[k].p = true ∧ (l.take k).any (sameR l[k].j l[k].y l[k].p) = false
theorem valid_nil : Valid [] := ⟨by simp, fun k hk => by simp at hk⟩
theorem valid_add {l : List Ro} (v : Valid l) (j : ByteArray) (y r p : Int) : Valid (addR l j y r p).2 := by
  unfold addR
  split
  · exact v
  · rename_i h1
    split
    · exact v
    · rename_i h2
      split
      · exact v
      · rename_i h3
        refine ⟨by simp; omega, fun k hk => ?_⟩
        by_cases hkl : k < l.length
        · have := v.2 k hkl
          simp only [List.getElem_append_left hkl]
          rw [List.take_append_of_le_length (by omega)]
          exact this
        · obtain rfl : k = l.length := by simp at hk; omega
          simp only [List.getElem_concat_length, List.take_left']
          exact ⟨by simpa using h1, by simpa using h2⟩

set_option maxRecDepth 20000 in
theorem of23_ok {h : LH} {i : Nat} {w : SV} {l : List Ro} (hi : h[i]? = some (.own 49 [w])) (rd : Rd h 73 4 encR w l) (hv : Valid l) : WPc C 23 [.s (.ptr i 0)] h fun u h' => Gr h h' ∧ ∃ t v, u = .s (.ptr t 0) ∧ Tb h.length h' t v l := by
  refine WPc.post fun Ψ hΨ => ?_
  refine WPc.intro (e := e23) rfl (by simp [e23]) ?_
  show WPk C b23 _ _ (KR [.tmp 2] _)
  have li := lt_of_some hi
  have hl := hv.1
  simp [wpk_skip, wpk_seq, k_cond, wpk_block, wpk_exit, wpk_ret, wpk_loop, k_ops, k_draw0, t_nil, t_cons, KT_eq, KD_eq, wpo_nil, k_cons, k_step, mt_some, mtk_some, KO_eq, KP_eq, K_normal, K_ret, K_exit, KB_normal, KB_ret, KB_exit, KL_normal, KL_ret, KL_exit, k_ret, k_normal, stepE, isCall, calleeE, opE, wantE, odE, odS, odL, odSL, fget, fput, initE, keepF, List.map_cons, List.map_nil, binE, intOp, strOp, shOp, unE, eqpE, eqnE, neqB, ressE, resE, packL, packE, flat1, fcells, fillE, setL, cellsOf_bind, cellsO_own, cellsO_ro, lenE_sl, lenE_nils, lenE_sl0, bound, rep, minE, maxE, List.getElem?_cons_zero, List.getElem?_cons_succ, get_lt, set_lt, get_len, get_len_add, set_len, set_len_add, List.append_assoc, List.cons_append, List.nil_append, -getElem?_pos, b23, s23_4, s23_3, s23_2, s23_1, new_ok, hi, li, rd.len]
  refine WPl.inv2 (fun n fr h' => Gr h h' ∧ ∃ (k : Nat) (v : SV), k ≤ l.length ∧ n = l.length - k ∧ Tb h.length h' h.length v (l.take k) ∧
    fr = [(3, some (.s (.ptr h.length 0))), (12, some (.s w)), (13, some (.s (.int .i64 l.length))), (14, some (.s (.int .i64 k)))]) ?_ _ _ _ ⟨Gr.self _ _, 0, .nils, Nat.zero_le _, rfl, new_tb h, rfl⟩
  rintro I hI n fr h' ⟨gr, k, v, hk, rfl, tt, rfl⟩
  refine ⟨by simp [keepF, fget], ?_⟩
  by_cases hlt : k < l.length
  · obtain ⟨j0, p0, q0, ob0, vs0, rfl, c1, c2, c3, c4, -⟩ := (rd.gr gr).at encR_len hlt
    have c5 := lt_of_some c1
    have w3 : IntKind.i64.wrap ((k : Int) + 1) = ((k + 1 : Nat) : Int) := wrap_small (by omega) (by omega)
    obtain ⟨v1, v2⟩ := hv.2 k hlt
    have ht : l.take (k + 1) = l.take k ++ [l[k]] := List.take_succ_eq_append_getElem hlt
    simp only [encR] at c4
    generalize l[k] = x at *
    have e : addR (l.take k) x.j x.y x.r x.p = (0, l.take (k + 1)) := by
      unfold addR
      rw [v1, v2, if_neg (by simp), if_neg (by simp), if_neg (by rw [List.length_take]; omega), ht]
    simp [wpk_skip, wpk_seq, k_cond, wpk_block, wpk_exit, wpk_ret, wpk_loop, k_ops, k_draw0, t_nil, t_cons, KT_eq, KD_eq, wpo_nil, k_cons, k_step, mt_some, mtk_some, KO_eq, KP_eq, K_normal, K_ret, K_exit, KB_normal, KB_ret, KB_exit, KL_normal, KL_ret, KL_exit, k_ret, k_normal, stepE, isCall, calleeE, opE, wantE, odE, odS, odL, odSL, fget, fput, initE, keepF, List.map_cons, List.map_nil, binE, intOp, strOp, shOp, unE, eqpE, eqnE, neqB, ressE, resE, packL, packE, flat1, fcells, fillE, setL, cellsOf_bind, cellsO_own, cellsO_ro, lenE_sl, lenE_nils, lenE_sl0, bound, rep, minE, maxE, List.getElem?_cons_zero, List.getElem?_cons_succ, get_lt, set_lt, get_len, get_len_add, set_len, set_len_add, List.append_assoc, List.cons_append, List.nil_append, -getElem?_pos, l23_0_2, l23_0_1, l23_0, hlt, c1, c2, c3, c4, c5]
    refine WPc.go (add_ok (tt.gr (Gr.self h' _)) x.j x.y x.r x.p) ?_
    rintro _ h2 ⟨cc, rfl, v', tt'⟩
    rw [e] at tt' ⊢
    have gg := cc.base (tt.gr (Gr.self h' _)) (gr.app _)
    simp [wpk_skip, wpk_seq, k_cond, wpk_block, wpk_exit, wpk_ret, wpk_loop, k_ops, k_draw0, t_nil, t_cons, KT_eq, KD_eq, wpo_nil, k_cons, k_step, mt_some, mtk_some, KO_eq, KP_eq, K_normal, K_ret, K_exit, KB_normal, KB_ret, KB_exit, KL_normal, KL_ret, KL_exit, k_ret, k_normal, stepE, isCall, calleeE, opE, wantE, odE, odS, odL, odSL, fget, fput, initE, keepF, List.map_cons, List.map_nil, binE, intOp, strOp, shOp, unE, eqpE, eqnE, neqB, ressE, resE, packL, packE, flat1, fcells, fillE, setL, cellsOf_bind, cellsO_own, cellsO_ro, lenE_sl, lenE_nils, lenE_sl0, bound, rep, minE, maxE, List.getElem?_cons_zero, List.getElem?_cons_succ, get_lt, set_lt, get_len, get_len_add, set_len, set_len_add, List.append_assoc, List.cons_append, List.nil_append, -getElem?_pos, w3]
    exact ⟨_, by omega, hI _ _ _ ⟨gg, k + 1, v', hlt, rfl, tt', rfl⟩⟩
  · obtain rfl : k = l.length := by omega
    rw [List.take_length] at tt
    simp [wpk_skip, wpk_seq, k_cond, wpk_block, wpk_exit, wpk_ret, wpk_loop, k_ops, k_draw0, t_nil, t_cons, KT_eq, KD_eq, wpo_nil, k_cons, k_step, mt_some, mtk_some, KO_eq, KP_eq, K_normal, K_ret, K_exit, KB_normal, KB_ret, KB_exit, KL_normal, KL_ret, KL_exit, k_ret, k_normal, stepE, isCall, calleeE, opE, wantE, odE, odS, odL, odSL, fget, fput, initE, keepF, List.map_cons, List.map_nil, binE, intOp, strOp, shOp, unE, eqpE, eqnE, neqB, ressE, resE, packL, packE, flat1, fcells, fillE, setL, cellsOf_bind, cellsO_own, cellsO_ro, lenE_sl, lenE_nils, lenE_sl0, bound, rep, minE, maxE, List.getElem?_cons_zero, List.getElem?_cons_succ, get_lt, set_lt, get_len, get_len_add, set_len, set_len_add, List.append_assoc, List.cons_append, List.nil_append, -getElem?_pos, l23_0_2, l23_0_1, l23_0, hlt]
    exact hΨ _ _ ⟨gr, _, v, rfl, tt⟩
end Go.Proofs.Ytcimcccnhbbncaa.Ev.CE
