/- UseTwice on the small machine. -/
import Derived.Test.YtfnihfcdoibleaaUseTwiceP
set_option linter.unusedSimpArgs false
set_option linter.unusedVariables false
namespace Go.Proofs.Ytfnihfcdoibleaa.Ev.CU
open Go

theorem copy_ok {h : LH} {v : SV} {l : List Int} (r : Rd h 3 1 encI v l) (hl : l.length < 1000000) : WPc C 19 [.s v] h fun u h' => Gr h h' ∧ ∃ w, u = .s w ∧ Ow h.length h' 3 encI w l := by
  refine WPc.post fun Ψ hΨ => ?_
  refine WPc.intro (e := e19) rfl (by simp [e19]) ?_
  show WPk C b19 _ _ (KR [.tmp 2] _)
  obtain ⟨w, r', e, ow⟩ := copy_app (y := 8) r (by omega)
  have he := r.elems
  rw [encI_flat] at he
  simp [wpk_skip, wpk_seq, k_cond, wpk_block, wpk_exit, wpk_ret, wpk_loop, k_ops, k_draw0, t_nil, t_cons, KT_eq, KD_eq, wpo_nil, k_cons, k_step, mt_some, mtk_some, KO_eq, KP_eq, K_normal, K_ret, K_exit, KB_normal, KB_ret, KB_exit, KL_normal, KL_ret, KL_exit, k_ret, k_normal, stepE, isCall, calleeE, opE, wantE, odE, odS, odL, odSL, fget, fput, initE, keepF, List.map_cons, List.map_nil, binE, intOp, strOp, shOp, unE, eqpE, eqnE, neqB, ressE, resE, packL, packE, flat1, fcells, fillE, setL, cellsOf_bind, cellsO_own, cellsO_ro, lenE_sl, lenE_nils, lenE_sl0, bound, rep, minE, maxE, List.getElem?_cons_zero, List.getElem?_cons_succ, get_lt, set_lt, get_len, get_len_add, set_len, set_len_add, List.append_assoc, List.cons_append, List.nil_append, -getElem?_pos, b19, s19_1, r.len, he, e]
  exact hΨ _ _ ⟨Gr.self _ _, w, rfl, ow⟩

theorem vec_each {y : Int} {l : List Vi} {p : Int} (g : Good l) (h0 : 0 ≤ p) : ∀ x ∈ vecF y p l, 0 ≤ x ∧ x ≤ 100000000000 := by
  intro x hx
  obtain ⟨a, b⟩ := vec_bounds (year := y) g.pos h0
  obtain ⟨k, hk, rfl⟩ := List.mem_iff_getElem.1 hx
  have c := sum_take_succ (vecF y p l) hk
  have d := sum_take_le a k
  have e := sum_take_le a (k + 1)
  have f := g.sum
  have := a _ hx
  omega

set_option maxHeartbeats 4000000 in
theorem useTwice_ok {h0 : LH} {av : SV} {zs : List Int} (ha : IntA h0 3 av zs) (year one two : Int) (hz : ∀ z ∈ zs, (Lit.int .i64 z).wf = true) (hy : is64 year) (hr : is64 one) (hm : is64 two) :
    ∃ h', callX C 6 [.s av, .s (.int .i64 year), .s (.int .i64 one), .s (.int .i64 two)] h0 = some (.s (.bool true), h') ∧ True := by
  suffices w : WPc C 6 [.s av, .s (.int .i64 year), .s (.int .i64 one), .s (.int .i64 two)] h0 fun u _ => u = .s (.bool true) by
    obtain ⟨v, h', e, rfl⟩ := w
    exact ⟨h', e, trivial⟩
  refine WPc.post fun Ψ hΨ => ?_
  refine WPc.intro (e := e6) rfl (by simp [e6]) ?_
  show WPk C b6 _ _ (KR [.tmp 8] _)
  have y1 := fun h => within_ok year 9 (by omega) h
  have y2 := fun h => within_ok one 3000 (by omega) h
  have y3 := fun h => within_ok two 3000 (by omega) h
  have r0 : 0 ≤ one % 3000 ∧ one % 3000 < 3000 := by omega
  have m0 : 0 ≤ two % 3000 ∧ two % 3000 < 3000 := by omega
  generalize year % 9 = y at y1
  generalize one % 3000 = ro at y2 r0
  generalize two % 3000 = mo at y3 m0
  simp [wpk_skip, wpk_seq, k_cond, wpk_block, wpk_exit, wpk_ret, wpk_loop, k_ops, k_draw0, t_nil, t_cons, KT_eq, KD_eq, wpo_nil, k_cons, k_step, mt_some, mtk_some, KO_eq, KP_eq, K_normal, K_ret, K_exit, KB_normal, KB_ret, KB_exit, KL_normal, KL_ret, KL_exit, k_ret, k_normal, stepE, isCall, calleeE, opE, wantE, odE, odS, odL, odSL, fget, fput, initE, keepF, List.map_cons, List.map_nil, binE, intOp, strOp, shOp, unE, eqpE, eqnE, neqB, ressE, resE, packL, packE, flat1, fcells, fillE, setL, cellsOf_bind, cellsO_own, cellsO_ro, lenE_sl, lenE_nils, lenE_sl0, bound, rep, minE, maxE, List.getElem?_cons_zero, List.getElem?_cons_succ, get_lt, set_lt, get_len, get_len_add, set_len, set_len_add, List.append_assoc, List.cons_append, List.nil_append, -getElem?_pos, b6, s6_1, s6_2, s6_3]
  refine WPc.go (losses_ok ha.rd fun z hz' => lit_64 (hz z hz')) ?_
  rintro _ h1 ⟨g1, i, w, rows, rfl, hi, rd, g⟩
  have w1 : IntKind.i64.wrap (ro + mo) = ro + mo := wrap_small (by omega) (by omega)
  have x1 : max 0 ro = ro := by omega
  have x2 : max 0 (ro + mo) = ro + mo := by omega
  have x3 : max 0 mo = mo := by omega
  have hl := g.len
  simp [wpk_skip, wpk_seq, k_cond, wpk_block, wpk_exit, wpk_ret, wpk_loop, k_ops, k_draw0, t_nil, t_cons, KT_eq, KD_eq, wpo_nil, k_cons, k_step, mt_some, mtk_some, KO_eq, KP_eq, K_normal, K_ret, K_exit, KB_normal, KB_ret, KB_exit, KL_normal, KL_ret, KL_exit, k_ret, k_normal, stepE, isCall, calleeE, opE, wantE, odE, odS, odL, odSL, fget, fput, initE, keepF, List.map_cons, List.map_nil, binE, intOp, strOp, shOp, unE, eqpE, eqnE, neqB, ressE, resE, packL, packE, flat1, fcells, fillE, setL, cellsOf_bind, cellsO_own, cellsO_ro, lenE_sl, lenE_nils, lenE_sl0, bound, rep, minE, maxE, List.getElem?_cons_zero, List.getElem?_cons_succ, get_lt, set_lt, get_len, get_len_add, set_len, set_len_add, List.append_assoc, List.cons_append, List.nil_append, -getElem?_pos, y1, y2, y3, w1, hi]
  refine WPc.go (vec_ok rd g y (room := ro) (by unfold is64; omega)) ?_
  rw [x1]
  rintro _ h2 ⟨g2, u1, rfl, ow1⟩
  simp [wpk_skip, wpk_seq, k_cond, wpk_block, wpk_exit, wpk_ret, wpk_loop, k_ops, k_draw0, t_nil, t_cons, KT_eq, KD_eq, wpo_nil, k_cons, k_step, mt_some, mtk_some, KO_eq, KP_eq, K_normal, K_ret, K_exit, KB_normal, KB_ret, KB_exit, KL_normal, KL_ret, KL_exit, k_ret, k_normal, stepE, isCall, calleeE, opE, wantE, odE, odS, odL, odSL, fget, fput, initE, keepF, List.map_cons, List.map_nil, binE, intOp, strOp, shOp, unE, eqpE, eqnE, neqB, ressE, resE, packL, packE, flat1, fcells, fillE, setL, cellsOf_bind, cellsO_own, cellsO_ro, lenE_sl, lenE_nils, lenE_sl0, bound, rep, minE, maxE, List.getElem?_cons_zero, List.getElem?_cons_succ, get_lt, set_lt, get_len, get_len_add, set_len, set_len_add, List.append_assoc, List.cons_append, List.nil_append, -getElem?_pos, w1]
  refine WPc.go (vec_ok (rd.gr g2) g y (room := ro + mo) (by unfold is64; omega)) ?_
  rw [x2]
  rintro _ h3 ⟨g3, u2, rfl, ow2⟩
  have less := twice_less (y := y) (q := mo) g.pos r0.1 m0.1
  have more := comb_ok (y := y) rows ro mo g.pos r0.1 m0.1
  have l1 := vecF_len y rows ro
  have l2 := vecF_len y rows (ro + mo)
  have b1 := fun k => vec_take (year := y) g r0.1 k
  have b1' := vec_each (y := y) g r0.1
  have r1 := (ow1.rd encI_len (z := 1)).gr g3
  have r2 := (ow2.rd encI_len (z := 1))
  have rr := (rd.gr g2).gr g3
  generalize vecF y ro rows = A at *
  generalize vecF y (ro + mo) rows = B at *
  have q1 : ((A.length : Int) != rows.length) = false := by simp [l1]
  have q2 : ((B.length : Int) != rows.length) = false := by simp [l2]
  simp [wpk_skip, wpk_seq, k_cond, wpk_block, wpk_exit, wpk_ret, wpk_loop, k_ops, k_draw0, t_nil, t_cons, KT_eq, KD_eq, wpo_nil, k_cons, k_step, mt_some, mtk_some, KO_eq, KP_eq, K_normal, K_ret, K_exit, KB_normal, KB_ret, KB_exit, KL_normal, KL_ret, KL_exit, k_ret, k_normal, stepE, isCall, calleeE, opE, wantE, odE, odS, odL, odSL, fget, fput, initE, keepF, List.map_cons, List.map_nil, binE, intOp, strOp, shOp, unE, eqpE, eqnE, neqB, ressE, resE, packL, packE, flat1, fcells, fillE, setL, cellsOf_bind, cellsO_own, cellsO_ro, lenE_sl, lenE_nils, lenE_sl0, bound, rep, minE, maxE, List.getElem?_cons_zero, List.getElem?_cons_succ, get_lt, set_lt, get_len, get_len_add, set_len, set_len_add, List.append_assoc, List.cons_append, List.nil_append, -getElem?_pos, s6_4, s6_5, s6_6, s6_7, r1.len, r2.len, rr.len, q1, q2]
  refine WPl.post (fun x fr' h' => x = .exit 0 ∧ Gr h3 h' ∧ ∃ v12 v13, fr' = [(1, some (.s (.int .i64 y))), (2, some (.s (.int .i64 ro))), (3, some (.s (.int .i64 mo))), (10, some (.s u1)), (11, some (.s u2)), (12, some (.s v12)), (13, some (.s v13))] ∧ Rd h' 37 3 encV v12 (restF rows A) ∧ Rd h' 3 1 encI v13 (atF 0 rows A)) (fun Φ hΦ => ?_) ?_
  · refine WPl.inv2 (fun n fr h' => Gr h3 h' ∧ ∃ k v12 v13 R T, k ≤ rows.length ∧ n = rows.length - k ∧ Ow h3.length h' 37 encV v12 R ∧ Ow h3.length h' 3 encI v13 T ∧ R.length ≤ k ∧ T.length ≤ k ∧ R ++ restF (rows.drop k) (A.drop k) = restF rows A ∧ T ++ atF k (rows.drop k) (A.drop k) = atF 0 rows A ∧
      fr = [(1, some (.s (.int .i64 y))), (2, some (.s (.int .i64 ro))), (3, some (.s (.int .i64 mo))), (10, some (.s u1)), (11, some (.s u2)), (12, some (.s v12)), (13, some (.s v13)), (53, some (.s w)), (54, some (.s (.int .i64 rows.length))), (55, some (.s (.int .i64 k)))]) ?_ _ _ _ ⟨Gr.refl _, 0, .nils, .nils, [], [], Nat.zero_le _, rfl, Ow.nil _ _, Ow.nil _ _, by simp, by simp, rfl, rfl, rfl⟩
    rintro I hI n fr h' ⟨gr, k, v12, v13, R, T, hk, rfl, o1, o2, n1, n2, e1, e2, rfl⟩
    refine ⟨by simp [keepF, fget], ?_⟩
    by_cases hlt : k < rows.length
    · have kA : k < A.length := by omega
      obtain ⟨j0, p0, q0, ob0, vs0, rfl, c1, c2, c3, c4, -⟩ := (rr.gr gr).at encV_len hlt
      obtain ⟨j1, p1, q1', ob1, vs1, rfl, d1, d2, d3⟩ := (r1.gr gr).int kA
      have c5 := lt_of_some c1
      have d5 := lt_of_some d1
      simp only [encV] at c4
      rw [List.drop_eq_getElem_cons hlt, List.drop_eq_getElem_cons kA] at e1 e2
      have hb := g.bound hlt
      have hA := b1' _ (List.getElem_mem kA)
      have w3 : IntKind.i64.wrap ((k : Int) + 1) = ((k + 1 : Nat) : Int) := wrap_small (by omega) (by omega)
      have w4 : IntKind.i64.wrap (rows[k].l - A[k]) = rows[k].l - A[k] := wrap_small (by omega) (by omega)
      rw [restF_cons] at e1
      rw [atF_cons] at e2
      by_cases c : rows[k].l > A[k]
      · rw [if_pos c] at e1 e2
        have hA1 := o1.app1 (y := 24) encV_len (by omega)
        obtain ⟨f1, f2⟩ := Ow.step gr o1 ⟨rows[k].o, rows[k].e, rows[k].l - A[k]⟩ [LO.own 37 [.int .i64 rows[k].o, .int .i64 rows[k].e, .int .i64 (rows[k].l - A[k])], LO.own 37 [.int .i64 rows[k].o, .int .i64 rows[k].e, .int .i64 (rows[k].l - A[k])]] (n := R.length + 1) (cs := [.int .i64 rows[k].o, .int .i64 rows[k].e, .int .i64 (rows[k].l - A[k])]) (m := 2) rfl rfl rfl
        obtain ⟨R2, hR2⟩ : ∃ a, a = R ++ [(⟨rows[k].o, rows[k].e, rows[k].l - A[k]⟩ : Vi)] := ⟨_, rfl⟩
        have o2' := (o1.kill_other o2 (by decide) [LO.own 37 [.int .i64 rows[k].o, .int .i64 rows[k].e, .int .i64 (rows[k].l - A[k])], LO.own 37 [.int .i64 rows[k].o, .int .i64 rows[k].e, .int .i64 (rows[k].l - A[k])]]).gr (Gr.self _ [.own 37 (R.flatMap encV ++ [.int .i64 rows[k].o, .int .i64 rows[k].e, .int .i64 (rows[k].l - A[k])])])
        have hA2 := o2'.app1 (y := 8) encI_len (by omega)
        obtain ⟨f3, f4⟩ := Ow.step f1 o2' (k : Int) [LO.own 3 [.int .i64 k]] (n := T.length + 1) (cs := [.int .i64 k]) (m := 1) rfl rfl rfl
        have f5 := (o2'.kill_other f2 (by decide) [LO.own 3 [.int .i64 k]]).gr (Gr.self _ [.own 3 (T.flatMap encI ++ [.int .i64 k])])
        rw [← hR2] at f5
        simp at hA2 f3 f4 f5
        simp [wpk_skip, wpk_seq, k_cond, wpk_block, wpk_exit, wpk_ret, wpk_loop, k_ops, k_draw0, t_nil, t_cons, KT_eq, KD_eq, wpo_nil, k_cons, k_step, mt_some, mtk_some, KO_eq, KP_eq, K_normal, K_ret, K_exit, KB_normal, KB_ret, KB_exit, KL_normal, KL_ret, KL_exit, k_ret, k_normal, stepE, isCall, calleeE, opE, wantE, odE, odS, odL, odSL, fget, fput, initE, keepF, List.map_cons, List.map_nil, binE, intOp, strOp, shOp, unE, eqpE, eqnE, neqB, ressE, resE, packL, packE, flat1, fcells, fillE, setL, cellsOf_bind, cellsO_own, cellsO_ro, lenE_sl, lenE_nils, lenE_sl0, bound, rep, minE, maxE, List.getElem?_cons_zero, List.getElem?_cons_succ, get_lt, set_lt, get_len, get_len_add, set_len, set_len_add, List.append_assoc, List.cons_append, List.nil_append, -getElem?_pos, l6_0_2, l6_0_1, l6_0, hlt, kA, c1, c2, c3, c4, c5, d1, d2, d3, d5, w3, w4, c, elems, hA1, hA2]
        exact ⟨_, by omega, hI _ _ _ ⟨f3, k + 1, _, _, R2, T ++ [(k : Int)], hlt, rfl, f5, f4, by rw [hR2]; simp; omega, by simp; omega, by rw [hR2]; simpa using e1, by simpa using e2, rfl⟩⟩
      · rw [if_neg c] at e1 e2
        simp [wpk_skip, wpk_seq, k_cond, wpk_block, wpk_exit, wpk_ret, wpk_loop, k_ops, k_draw0, t_nil, t_cons, KT_eq, KD_eq, wpo_nil, k_cons, k_step, mt_some, mtk_some, KO_eq, KP_eq, K_normal, K_ret, K_exit, KB_normal, KB_ret, KB_exit, KL_normal, KL_ret, KL_exit, k_ret, k_normal, stepE, isCall, calleeE, opE, wantE, odE, odS, odL, odSL, fget, fput, initE, keepF, List.map_cons, List.map_nil, binE, intOp, strOp, shOp, unE, eqpE, eqnE, neqB, ressE, resE, packL, packE, flat1, fcells, fillE, setL, cellsOf_bind, cellsO_own, cellsO_ro, lenE_sl, lenE_nils, lenE_sl0, bound, rep, minE, maxE, List.getElem?_cons_zero, List.getElem?_cons_succ, get_lt, set_lt, get_len, get_len_add, set_len, set_len_add, List.append_assoc, List.cons_append, List.nil_append, -getElem?_pos, l6_0_2, l6_0_1, l6_0, hlt, kA, c1, c2, c3, c4, c5, d1, d2, d3, d5, w3, w4, c]
        exact ⟨_, by omega, hI _ _ _ ⟨gr.app _, k + 1, _, _, R, T, hlt, rfl, o1.gr (Gr.self _ _), o2.gr (Gr.self _ _), by omega, by omega, e1, e2, rfl⟩⟩
    · obtain rfl : k = rows.length := by omega
      rw [List.drop_eq_nil_of_le (Nat.le_refl _)] at e1 e2
      simp only [restF, atF, List.append_nil] at e1 e2
      simp [wpk_skip, wpk_seq, k_cond, wpk_block, wpk_exit, wpk_ret, wpk_loop, k_ops, k_draw0, t_nil, t_cons, KT_eq, KD_eq, wpo_nil, k_cons, k_step, mt_some, mtk_some, KO_eq, KP_eq, K_normal, K_ret, K_exit, KB_normal, KB_ret, KB_exit, KL_normal, KL_ret, KL_exit, k_ret, k_normal, stepE, isCall, calleeE, opE, wantE, odE, odS, odL, odSL, fget, fput, initE, keepF, List.map_cons, List.map_nil, binE, intOp, strOp, shOp, unE, eqpE, eqnE, neqB, ressE, resE, packL, packE, flat1, fcells, fillE, setL, cellsOf_bind, cellsO_own, cellsO_ro, lenE_sl, lenE_nils, lenE_sl0, bound, rep, minE, maxE, List.getElem?_cons_zero, List.getElem?_cons_succ, get_lt, set_lt, get_len, get_len_add, set_len, set_len_add, List.append_assoc, List.cons_append, List.nil_append, -getElem?_pos, l6_0_2, l6_0_1, l6_0, hlt]
      exact hΦ _ _ _ ⟨rfl, gr, v12, v13, rfl, e1 ▸ o1.rd encV_len, e2 ▸ o2.rd encI_len⟩
  · rintro x fr' h4 ⟨rfl, g4, v12, v13, rfl, rR, rT⟩
    have gR : Good (restF rows A) := rest_good g fun x hx => (b1' x hx).1
    simp [wpk_skip, wpk_seq, k_cond, wpk_block, wpk_exit, wpk_ret, wpk_loop, k_ops, k_draw0, t_nil, t_cons, KT_eq, KD_eq, wpo_nil, k_cons, k_step, mt_some, mtk_some, KO_eq, KP_eq, K_normal, K_ret, K_exit, KB_normal, KB_ret, KB_exit, KL_normal, KL_ret, KL_exit, k_ret, k_normal, stepE, isCall, calleeE, opE, wantE, odE, odS, odL, odSL, fget, fput, initE, keepF, List.map_cons, List.map_nil, binE, intOp, strOp, shOp, unE, eqpE, eqnE, neqB, ressE, resE, packL, packE, flat1, fcells, fillE, setL, cellsOf_bind, cellsO_own, cellsO_ro, lenE_sl, lenE_nils, lenE_sl0, bound, rep, minE, maxE, List.getElem?_cons_zero, List.getElem?_cons_succ, get_lt, set_lt, get_len, get_len_add, set_len, set_len_add, List.append_assoc, List.cons_append, List.nil_append, -getElem?_pos, s6_8]
    refine WPc.go (vec_ok rR gR y (room := mo) (by unfold is64; omega)) ?_
    rw [x3]
    rintro _ h5 ⟨g5, u3, rfl, ow3⟩
    have l3 := vecF_len y (restF rows A) mo
    have l3' := at_len 0 rows A
    have b3 := fun k => vec_take (year := y) gR m0.1 k
    have b3' := vec_each (y := y) gR m0.1
    have r3 := ow3.rd encI_len (z := 1)
    have rR5 := rR.gr g5
    have rT5 := rT.gr g5
    have r15 := (r1.gr g4).gr g5
    have r25 := (r2.gr g4).gr g5
    have hsc := scat_comb rows A (vecF y mo (restF rows A)) [] l1 l3
    have hat := at_bound 0 rows A
    have hrl := rest_len rows A
    generalize vecF y mo (restF rows A) = D at *
    generalize restF rows A = R at *
    simp only [List.length_nil, List.nil_append] at hsc
    generalize atF 0 rows A = T at *
    have q3 : ((D.length : Int) != R.length) = false := by simp [l3]
    have uA := used_ok r15 (by omega) fun k _ => by have := b1 k; omega
    by_cases c : A.sum < ro
    · obtain ⟨z1, z2⟩ := less c
      have uD := used_ok r3 (by omega) fun k _ => by have := b3 k; omega
      rw [z1] at uD
      have hs := same_ok r15 r25 (by omega)
      rw [decide_eq_true z2] at hs
      simp [wpk_skip, wpk_seq, k_cond, wpk_block, wpk_exit, wpk_ret, wpk_loop, k_ops, k_draw0, t_nil, t_cons, KT_eq, KD_eq, wpo_nil, k_cons, k_step, mt_some, mtk_some, KO_eq, KP_eq, K_normal, K_ret, K_exit, KB_normal, KB_ret, KB_exit, KL_normal, KL_ret, KL_exit, k_ret, k_normal, stepE, isCall, calleeE, opE, wantE, odE, odS, odL, odSL, fget, fput, initE, keepF, List.map_cons, List.map_nil, binE, intOp, strOp, shOp, unE, eqpE, eqnE, neqB, ressE, resE, packL, packE, flat1, fcells, fillE, setL, cellsOf_bind, cellsO_own, cellsO_ro, lenE_sl, lenE_nils, lenE_sl0, bound, rep, minE, maxE, List.getElem?_cons_zero, List.getElem?_cons_succ, get_lt, set_lt, get_len, get_len_add, set_len, set_len_add, List.append_assoc, List.cons_append, List.nil_append, -getElem?_pos, s6_9, s6_10, r3.len, rR5.len, q3, uA, c, uD, hs]
      refine WPc.go (wakes_ok _) ?_
      rintro _ h6 ⟨_, rfl⟩
      simp [wpk_skip, wpk_seq, k_cond, wpk_block, wpk_exit, wpk_ret, wpk_loop, k_ops, k_draw0, t_nil, t_cons, KT_eq, KD_eq, wpo_nil, k_cons, k_step, mt_some, mtk_some, KO_eq, KP_eq, K_normal, K_ret, K_exit, KB_normal, KB_ret, KB_exit, KL_normal, KL_ret, KL_exit, k_ret, k_normal, stepE, isCall, calleeE, opE, wantE, odE, odS, odL, odSL, fget, fput, initE, keepF, List.map_cons, List.map_nil, binE, intOp, strOp, shOp, unE, eqpE, eqnE, neqB, ressE, resE, packL, packE, flat1, fcells, fillE, setL, cellsOf_bind, cellsO_own, cellsO_ro, lenE_sl, lenE_nils, lenE_sl0, bound, rep, minE, maxE, List.getElem?_cons_zero, List.getElem?_cons_succ, get_lt, set_lt, get_len, get_len_add, set_len, set_len_add, List.append_assoc, List.cons_append, List.nil_append, -getElem?_pos, ]
      exact hΨ _ _ rfl
    · simp [wpk_skip, wpk_seq, k_cond, wpk_block, wpk_exit, wpk_ret, wpk_loop, k_ops, k_draw0, t_nil, t_cons, KT_eq, KD_eq, wpo_nil, k_cons, k_step, mt_some, mtk_some, KO_eq, KP_eq, K_normal, K_ret, K_exit, KB_normal, KB_ret, KB_exit, KL_normal, KL_ret, KL_exit, k_ret, k_normal, stepE, isCall, calleeE, opE, wantE, odE, odS, odL, odSL, fget, fput, initE, keepF, List.map_cons, List.map_nil, binE, intOp, strOp, shOp, unE, eqpE, eqnE, neqB, ressE, resE, packL, packE, flat1, fcells, fillE, setL, cellsOf_bind, cellsO_own, cellsO_ro, lenE_sl, lenE_nils, lenE_sl0, bound, rep, minE, maxE, List.getElem?_cons_zero, List.getElem?_cons_succ, get_lt, set_lt, get_len, get_len_add, set_len, set_len_add, List.append_assoc, List.cons_append, List.nil_append, -getElem?_pos, s6_9, s6_10, s6_11, r3.len, rR5.len, q3, uA, c]
      refine WPc.go (copy_ok r15 (by omega)) ?_
      rintro _ h6 ⟨g6, u4, rfl, ow4⟩
      simp [wpk_skip, wpk_seq, k_cond, wpk_block, wpk_exit, wpk_ret, wpk_loop, k_ops, k_draw0, t_nil, t_cons, KT_eq, KD_eq, wpo_nil, k_cons, k_step, mt_some, mtk_some, KO_eq, KP_eq, K_normal, K_ret, K_exit, KB_normal, KB_ret, KB_exit, KL_normal, KL_ret, KL_exit, k_ret, k_normal, stepE, isCall, calleeE, opE, wantE, odE, odS, odL, odSL, fget, fput, initE, keepF, List.map_cons, List.map_nil, binE, intOp, strOp, shOp, unE, eqpE, eqnE, neqB, ressE, resE, packL, packE, flat1, fcells, fillE, setL, cellsOf_bind, cellsO_own, cellsO_ro, lenE_sl, lenE_nils, lenE_sl0, bound, rep, minE, maxE, List.getElem?_cons_zero, List.getElem?_cons_succ, get_lt, set_lt, get_len, get_len_add, set_len, set_len_add, List.append_assoc, List.cons_append, List.nil_append, -getElem?_pos, s6_12, rT5.len]
      refine WPl.inv2 (fun n fr h' => Gr h5 h' ∧ ∃ k E, k ≤ T.length ∧ n = T.length - k ∧ Ow h5.length h' 3 encI u4 E ∧ E.length = A.length ∧ (∀ x ∈ E, 0 ≤ x ∧ x ≤ 100000000000 * (k + 1)) ∧ scat E (T.drop k) (D.drop k) = B ∧
        fr = [(11, some (.s u2)), (16, some (.s u3)), (17, some (.s u4)), (110, some (.s v13)), (111, some (.s (.int .i64 T.length))), (112, some (.s (.int .i64 k)))]) ?_ _ _ _ ⟨g6, 0, A, Nat.zero_le _, rfl, ow4, rfl, fun x hx => by have := b1' x hx; omega, by rw [List.drop_zero, List.drop_zero, hsc, more], rfl⟩
      rintro I hI n fr h' ⟨gr, k, E, hk, rfl, oE, hE, bE, he, rfl⟩
      refine ⟨by simp [keepF, fget], ?_⟩
      by_cases hlt : k < T.length
      · have kD : k < D.length := by omega
        obtain ⟨j1, p1, q1', ob1, vs1, rfl, d1, d2, d3⟩ := (rT5.gr gr).int hlt
        obtain ⟨j2, p2, q2', ob2, vs2, rfl, e1, e2, e3⟩ := (r3.gr gr).int kD
        have hT := hat _ (List.getElem_mem hlt)
        have hTn : T[k].toNat < E.length := by omega
        obtain ⟨j3, i1, rfl, i2, i3⟩ := oE.int_at hTn
        have d5 := lt_of_some d1
        have e5 := lt_of_some e1
        have i5 := lt_of_some i2
        rw [List.drop_eq_getElem_cons hlt, List.drop_eq_getElem_cons kD] at he
        simp only [scat] at he
        have hgd : E.getD T[k].toNat 0 = E[T[k].toNat] := by rw [List.getD_eq_getElem?_getD, List.getElem?_eq_getElem hTn]; rfl
        rw [hgd] at he
        have hx := bE _ (List.getElem_mem hTn)
        have hd := b3' _ (List.getElem_mem kD)
        have w3 : IntKind.i64.wrap ((k : Int) + 1) = ((k + 1 : Nat) : Int) := wrap_small (by omega) (by omega)
        have w4 : IntKind.i64.wrap (E[T[k].toNat] + D[k]) = E[T[k].toNat] + D[k] := wrap_small (by omega) (by omega)
        have t0 : 0 ≤ T[k] := by omega
        have t1 : T[k] < (E.length : Int) := by omega
        have hget : (E.map (SV.int .i64))[T[k].toNat]? = some (.int .i64 E[T[k].toNat]) := by simp [hTn]
        have t2 : T[k].toNat + 1 ≤ E.length := by omega
        simp [wpk_skip, wpk_seq, k_cond, wpk_block, wpk_exit, wpk_ret, wpk_loop, k_ops, k_draw0, t_nil, t_cons, KT_eq, KD_eq, wpo_nil, k_cons, k_step, mt_some, mtk_some, KO_eq, KP_eq, K_normal, K_ret, K_exit, KB_normal, KB_ret, KB_exit, KL_normal, KL_ret, KL_exit, k_ret, k_normal, stepE, isCall, calleeE, opE, wantE, odE, odS, odL, odSL, fget, fput, initE, keepF, List.map_cons, List.map_nil, binE, intOp, strOp, shOp, unE, eqpE, eqnE, neqB, ressE, resE, packL, packE, flat1, fcells, fillE, setL, cellsOf_bind, cellsO_own, cellsO_ro, lenE_sl, lenE_nils, lenE_sl0, bound, rep, minE, maxE, List.getElem?_cons_zero, List.getElem?_cons_succ, get_lt, set_lt, get_len, get_len_add, set_len, set_len_add, List.append_assoc, List.cons_append, List.nil_append, -getElem?_pos, l6_1_2, l6_1_1, l6_1, hlt, kD, d1, d2, d3, d5, e1, e2, e3, e5, i2, i5, w3, w4, t0, t1, t2, hget]
        refine ⟨_, by omega, hI _ _ _ ⟨gr.set _ i1, k + 1, E.set T[k].toNat (E[T[k].toNat] + D[k]), hlt, rfl, i3 _, by simp [hE], ?_, he, rfl⟩⟩
        intro x hx'
        rcases List.mem_or_eq_of_mem_set hx' with hx' | rfl
        · have := bE x hx'; omega
        · omega
      · obtain rfl : k = T.length := by omega
        rw [List.drop_eq_nil_of_le (Nat.le_refl _)] at he
        have he' : E = B := by
          unfold scat at he
          simpa using he
        have hs := same_ok (oE.rd encI_len) (r25.gr gr) (by omega)
        rw [decide_eq_true he'] at hs
        simp [wpk_skip, wpk_seq, k_cond, wpk_block, wpk_exit, wpk_ret, wpk_loop, k_ops, k_draw0, t_nil, t_cons, KT_eq, KD_eq, wpo_nil, k_cons, k_step, mt_some, mtk_some, KO_eq, KP_eq, K_normal, K_ret, K_exit, KB_normal, KB_ret, KB_exit, KL_normal, KL_ret, KL_exit, k_ret, k_normal, stepE, isCall, calleeE, opE, wantE, odE, odS, odL, odSL, fget, fput, initE, keepF, List.map_cons, List.map_nil, binE, intOp, strOp, shOp, unE, eqpE, eqnE, neqB, ressE, resE, packL, packE, flat1, fcells, fillE, setL, cellsOf_bind, cellsO_own, cellsO_ro, lenE_sl, lenE_nils, lenE_sl0, bound, rep, minE, maxE, List.getElem?_cons_zero, List.getElem?_cons_succ, get_lt, set_lt, get_len, get_len_add, set_len, set_len_add, List.append_assoc, List.cons_append, List.nil_append, -getElem?_pos, l6_1_2, l6_1_1, l6_1, hlt, s6_13, hs]
        refine WPc.go (wakes_ok _) ?_
        rintro _ h7 ⟨_, rfl⟩
        simp [wpk_skip, wpk_seq, k_cond, wpk_block, wpk_exit, wpk_ret, wpk_loop, k_ops, k_draw0, t_nil, t_cons, KT_eq, KD_eq, wpo_nil, k_cons, k_step, mt_some, mtk_some, KO_eq, KP_eq, K_normal, K_ret, K_exit, KB_normal, KB_ret, KB_exit, KL_normal, KL_ret, KL_exit, k_ret, k_normal, stepE, isCall, calleeE, opE, wantE, odE, odS, odL, odSL, fget, fput, initE, keepF, List.map_cons, List.map_nil, binE, intOp, strOp, shOp, unE, eqpE, eqnE, neqB, ressE, resE, packL, packE, flat1, fcells, fillE, setL, cellsOf_bind, cellsO_own, cellsO_ro, lenE_sl, lenE_nils, lenE_sl0, bound, rep, minE, maxE, List.getElem?_cons_zero, List.getElem?_cons_succ, get_lt, set_lt, get_len, get_len_add, set_len, set_len_add, List.append_assoc, List.cons_append, List.nil_append, -getElem?_pos, ]
        exact hΨ _ _ rfl
end Go.Proofs.Ytfnihfcdoibleaa.Ev.CU
