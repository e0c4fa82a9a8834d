/- UseMore on the small machine. -/
import Derived.Test.YtfnihfcdoibleaaUsePure
set_option linter.unusedSimpArgs false
set_option linter.unusedVariables false
namespace Go.Proofs.Ytfnihfcdoibleaa.Ev.CU
open Go

set_option maxHeartbeats 4000000 in
theorem useMore_ok {h0 : LH} {av : SV} {zs : List Int} (ha : IntA h0 3 av zs) (year room more : Int) (hz : ∀ z ∈ zs, (Lit.int .i64 z).wf = true) (hy : is64 year) (hr : is64 room) (hm : is64 more) :
    ∃ h', callX C 5 [.s av, .s (.int .i64 year), .s (.int .i64 room), .s (.int .i64 more)] h0 = some (.s (.bool true), h') ∧ True := by
  suffices w : WPc C 5 [.s av, .s (.int .i64 year), .s (.int .i64 room), .s (.int .i64 more)] h0 fun u _ => u = .s (.bool true) by
    obtain ⟨v, h', e, rfl⟩ := w
    exact ⟨h', e, trivial⟩
  refine WPc.post fun Ψ hΨ => ?_
  refine WPc.intro (e := e5) rfl (by simp [e5]) ?_
  show WPk C b5 _ _ (KR [.tmp 8] _)
  have y1 := fun h => within_ok year 9 (by omega) h
  have y2 := fun h => within_ok room 5000 (by omega) h
  have y3 := fun h => within_ok more 5000 (by omega) h
  have r0 : 0 ≤ room % 5000 ∧ room % 5000 < 5000 := by omega
  have m0 : 0 ≤ more % 5000 ∧ more % 5000 < 5000 := by omega
  generalize year % 9 = y at y1
  generalize room % 5000 = ro at y2 r0
  generalize more % 5000 = mo at y3 m0
  simp [wpk_skip, wpk_seq, k_cond, wpk_block, wpk_exit, wpk_ret, wpk_loop, k_ops, k_draw0, t_nil, t_cons, KT_eq, KD_eq, wpo_nil, k_cons, k_step, mt_some, mtk_some, KO_eq, KP_eq, K_normal, K_ret, K_exit, KB_normal, KB_ret, KB_exit, KL_normal, KL_ret, KL_exit, k_ret, k_normal, stepE, isCall, calleeE, opE, wantE, odE, odS, odL, odSL, fget, fput, initE, keepF, List.map_cons, List.map_nil, binE, intOp, strOp, shOp, unE, eqpE, eqnE, neqB, ressE, resE, packL, packE, flat1, fcells, fillE, setL, cellsOf_bind, cellsO_own, cellsO_ro, lenE_sl, lenE_nils, lenE_sl0, bound, rep, minE, maxE, List.getElem?_cons_zero, List.getElem?_cons_succ, get_lt, set_lt, get_len, get_len_add, set_len, set_len_add, List.append_assoc, List.cons_append, List.nil_append, -getElem?_pos, b5, s5_1, s5_2, s5_3]
  refine WPc.go (losses_ok ha.rd fun z hz' => lit_64 (hz z hz')) ?_
  rintro _ h1 ⟨g1, i, w, rows, rfl, hi, rd, g⟩
  have w1 : IntKind.i64.wrap (ro + mo) = ro + mo := wrap_small (by omega) (by omega)
  have w2 : IntKind.i64.wrap (-ro) = -ro := wrap_small (by omega) (by omega)
  have x0 : max 0 (-ro) = 0 := by omega
  have x1 : max 0 ro = ro := by omega
  have x2 : max 0 (ro + mo) = ro + mo := by omega
  have x3 : max (0 : Int) 1200000000000 = 1200000000000 := by omega
  have bo : ∀ p k, 0 ≤ p → 0 ≤ ((vecF y p rows).take k).sum ∧ ((vecF y p rows).take k).sum ≤ 100000000000 := fun p k hp => vec_take (year := y) g hp k
  have hl := g.len
  simp [wpk_skip, wpk_seq, k_cond, wpk_block, wpk_exit, wpk_ret, wpk_loop, k_ops, k_draw0, t_nil, t_cons, KT_eq, KD_eq, wpo_nil, k_cons, k_step, mt_some, mtk_some, KO_eq, KP_eq, K_normal, K_ret, K_exit, KB_normal, KB_ret, KB_exit, KL_normal, KL_ret, KL_exit, k_ret, k_normal, stepE, isCall, calleeE, opE, wantE, odE, odS, odL, odSL, fget, fput, initE, keepF, List.map_cons, List.map_nil, binE, intOp, strOp, shOp, unE, eqpE, eqnE, neqB, ressE, resE, packL, packE, flat1, fcells, fillE, setL, cellsOf_bind, cellsO_own, cellsO_ro, lenE_sl, lenE_nils, lenE_sl0, bound, rep, minE, maxE, List.getElem?_cons_zero, List.getElem?_cons_succ, get_lt, set_lt, get_len, get_len_add, set_len, set_len_add, List.append_assoc, List.cons_append, List.nil_append, -getElem?_pos, y1, y2, y3, w1, w2, hi]
  refine WPc.go (vec_ok rd g y (room := ro) (by unfold is64; omega)) ?_
  rw [x1]
  rintro _ h2 ⟨g2, u1, rfl, ow1⟩
  simp [wpk_skip, wpk_seq, k_cond, wpk_block, wpk_exit, wpk_ret, wpk_loop, k_ops, k_draw0, t_nil, t_cons, KT_eq, KD_eq, wpo_nil, k_cons, k_step, mt_some, mtk_some, KO_eq, KP_eq, K_normal, K_ret, K_exit, KB_normal, KB_ret, KB_exit, KL_normal, KL_ret, KL_exit, k_ret, k_normal, stepE, isCall, calleeE, opE, wantE, odE, odS, odL, odSL, fget, fput, initE, keepF, List.map_cons, List.map_nil, binE, intOp, strOp, shOp, unE, eqpE, eqnE, neqB, ressE, resE, packL, packE, flat1, fcells, fillE, setL, cellsOf_bind, cellsO_own, cellsO_ro, lenE_sl, lenE_nils, lenE_sl0, bound, rep, minE, maxE, List.getElem?_cons_zero, List.getElem?_cons_succ, get_lt, set_lt, get_len, get_len_add, set_len, set_len_add, List.append_assoc, List.cons_append, List.nil_append, -getElem?_pos, w1]
  refine WPc.go (vec_ok (rd.gr g2) g y (room := ro + mo) (by unfold is64; omega)) ?_
  rw [x2]
  rintro _ h3 ⟨g3, u2, rfl, ow2⟩
  simp [wpk_skip, wpk_seq, k_cond, wpk_block, wpk_exit, wpk_ret, wpk_loop, k_ops, k_draw0, t_nil, t_cons, KT_eq, KD_eq, wpo_nil, k_cons, k_step, mt_some, mtk_some, KO_eq, KP_eq, K_normal, K_ret, K_exit, KB_normal, KB_ret, KB_exit, KL_normal, KL_ret, KL_exit, k_ret, k_normal, stepE, isCall, calleeE, opE, wantE, odE, odS, odL, odSL, fget, fput, initE, keepF, List.map_cons, List.map_nil, binE, intOp, strOp, shOp, unE, eqpE, eqnE, neqB, ressE, resE, packL, packE, flat1, fcells, fillE, setL, cellsOf_bind, cellsO_own, cellsO_ro, lenE_sl, lenE_nils, lenE_sl0, bound, rep, minE, maxE, List.getElem?_cons_zero, List.getElem?_cons_succ, get_lt, set_lt, get_len, get_len_add, set_len, set_len_add, List.append_assoc, List.cons_append, List.nil_append, -getElem?_pos, w2]
  refine WPc.go (vec_ok ((rd.gr g2).gr g3) g y (room := -ro) (by unfold is64; omega)) ?_
  rw [x0]
  rintro _ h4 ⟨g4, u3, rfl, ow3⟩
  simp [wpk_skip, wpk_seq, k_cond, wpk_block, wpk_exit, wpk_ret, wpk_loop, k_ops, k_draw0, t_nil, t_cons, KT_eq, KD_eq, wpo_nil, k_cons, k_step, mt_some, mtk_some, KO_eq, KP_eq, K_normal, K_ret, K_exit, KB_normal, KB_ret, KB_exit, KL_normal, KL_ret, KL_exit, k_ret, k_normal, stepE, isCall, calleeE, opE, wantE, odE, odS, odL, odSL, fget, fput, initE, keepF, List.map_cons, List.map_nil, binE, intOp, strOp, shOp, unE, eqpE, eqnE, neqB, ressE, resE, packL, packE, flat1, fcells, fillE, setL, cellsOf_bind, cellsO_own, cellsO_ro, lenE_sl, lenE_nils, lenE_sl0, bound, rep, minE, maxE, List.getElem?_cons_zero, List.getElem?_cons_succ, get_lt, set_lt, get_len, get_len_add, set_len, set_len_add, List.append_assoc, List.cons_append, List.nil_append, -getElem?_pos, ]
  refine WPc.go (vec_ok (((rd.gr g2).gr g3).gr g4) g y (room := 1200000000000) (by unfold is64; omega)) ?_
  rw [x3]
  rintro _ h5 ⟨g5, u4, rfl, ow4⟩
  obtain ⟨p1, p2⟩ := vec_mono (y := y) (l := rows) r0.1 (show ro ≤ ro + mo by omega)
  have p3 := vec_zero (y := y) g.pos
  have p4 := vec_all (y := y) (p := 1200000000000) g.pos (by have := g.sum; omega)
  have p5 := vec_sum_le (y := y) (l := rows) r0.1
  have l1 := vecF_len y rows ro
  have l2 := vecF_len y rows (ro + mo)
  have l3 := vecF_len y rows 0
  have l4 := vecF_len y rows 1200000000000
  have b1 := fun k => bo ro k (by omega)
  have b2 := fun k => bo (ro + mo) k (by omega)
  have r1 := ((((ow1.rd encI_len (z := 1)).gr g3).gr g4).gr g5)
  have r2 := (((ow2.rd encI_len (z := 1)).gr g4).gr g5)
  have r3 := ((ow3.rd encI_len (z := 1)).gr g5)
  have r4 := (ow4.rd encI_len (z := 1))
  have rr := ((((rd.gr g2).gr g3).gr g4).gr g5)
  generalize vecF y ro rows = A at *
  generalize vecF y (ro + mo) rows = B at *
  generalize vecF y 0 rows = Z at *
  generalize vecF y 1200000000000 rows = L at *
  have q1 : ((A.length : Int) != rows.length) = false := by simp [l1]
  have q2 : ((B.length : Int) != rows.length) = false := by simp [l2]
  have q3 : ((Z.length : Int) != rows.length) = false := by simp [l3]
  have q4 : ((L.length : Int) != rows.length) = false := by simp [l4]
  simp [wpk_skip, wpk_seq, k_cond, wpk_block, wpk_exit, wpk_ret, wpk_loop, k_ops, k_draw0, t_nil, t_cons, KT_eq, KD_eq, wpo_nil, k_cons, k_step, mt_some, mtk_some, KO_eq, KP_eq, K_normal, K_ret, K_exit, KB_normal, KB_ret, KB_exit, KL_normal, KL_ret, KL_exit, k_ret, k_normal, stepE, isCall, calleeE, opE, wantE, odE, odS, odL, odSL, fget, fput, initE, keepF, List.map_cons, List.map_nil, binE, intOp, strOp, shOp, unE, eqpE, eqnE, neqB, ressE, resE, packL, packE, flat1, fcells, fillE, setL, cellsOf_bind, cellsO_own, cellsO_ro, lenE_sl, lenE_nils, lenE_sl0, bound, rep, minE, maxE, List.getElem?_cons_zero, List.getElem?_cons_succ, get_lt, set_lt, get_len, get_len_add, set_len, set_len_add, List.append_assoc, List.cons_append, List.nil_append, -getElem?_pos, s5_4, s5_5, r1.len, r2.len, r3.len, r4.len, rr.len, q1, q2, q3, q4]
  refine WPl.inv2 (fun n fr h' => Gr h5 h' ∧ ∃ k, k ≤ rows.length ∧ n = rows.length - k ∧
    fr = [(1, some (.s (.int .i64 y))), (2, some (.s (.int .i64 ro))), (3, some (.s (.int .i64 mo))), (10, some (.s u1)), (11, some (.s u2)), (12, some (.s u3)), (13, some (.s u4)), (72, some (.s w)), (73, some (.s (.int .i64 rows.length))), (74, some (.s (.int .i64 k)))]) ?_ _ _ _ ⟨Gr.refl _, 0, Nat.zero_le _, rfl, rfl⟩
  rintro I hI n fr h' ⟨gr, k, hk, rfl, rfl⟩
  refine ⟨by simp [keepF, fget], ?_⟩
  by_cases hlt : k < rows.length
  · have kA : k < A.length := by omega
    have kB : k < B.length := by omega
    have kZ : k < Z.length := by omega
    have kL : k < L.length := by omega
    obtain ⟨j0, o0, p0, ob0, vs0, rfl, c1, c2, c3, c4, -⟩ := (rr.gr gr).at encV_len hlt
    obtain ⟨j1, o1, p1', ob1, vs1, rfl, d1, d2, d3⟩ := (r1.gr gr).int kA
    obtain ⟨j2, o2, p2', ob2, vs2, rfl, e1, e2, e3⟩ := (r2.gr gr).int kB
    obtain ⟨j3, o3, p3', ob3, vs3, rfl, f1, f2, f3⟩ := (r3.gr gr).int kZ
    obtain ⟨j4, o4, p4', ob4, vs4, rfl, t1, t2, t3⟩ := (r4.gr gr).int kL
    have c5 := lt_of_some c1
    have d5 := lt_of_some d1
    have e5 := lt_of_some e1
    have f5 := lt_of_some f1
    have t5 := lt_of_some t1
    simp only [encV] at c4
    have v1 : ¬ (B[k] < A[k]) := by have := p1 k kA kB; omega
    have v2 : Z[k] = 0 := p3 _ (List.getElem_mem kZ)
    have v3 : L[k] = if rows[k].e < y then 0 else rows[k].l := by
      have : L[k]? = some (if rows[k].e < y then 0 else rows[k].l) := by rw [p4]; simp [hlt]
      rw [List.getElem?_eq_getElem kL] at this
      exact Option.some.inj this
    have w3 : IntKind.i64.wrap ((k : Int) + 1) = ((k + 1 : Nat) : Int) := wrap_small (by omega) (by omega)
    by_cases c : rows[k].e < y
    · rw [if_pos c] at v3
      rw [v2] at f3
      rw [v3] at t3
      simp [wpk_skip, wpk_seq, k_cond, wpk_block, wpk_exit, wpk_ret, wpk_loop, k_ops, k_draw0, t_nil, t_cons, KT_eq, KD_eq, wpo_nil, k_cons, k_step, mt_some, mtk_some, KO_eq, KP_eq, K_normal, K_ret, K_exit, KB_normal, KB_ret, KB_exit, KL_normal, KL_ret, KL_exit, k_ret, k_normal, stepE, isCall, calleeE, opE, wantE, odE, odS, odL, odSL, fget, fput, initE, keepF, List.map_cons, List.map_nil, binE, intOp, strOp, shOp, unE, eqpE, eqnE, neqB, ressE, resE, packL, packE, flat1, fcells, fillE, setL, cellsOf_bind, cellsO_own, cellsO_ro, lenE_sl, lenE_nils, lenE_sl0, bound, rep, minE, maxE, List.getElem?_cons_zero, List.getElem?_cons_succ, get_lt, set_lt, get_len, get_len_add, set_len, set_len_add, List.append_assoc, List.cons_append, List.nil_append, -getElem?_pos, l5_0_2, l5_0_1, l5_0, hlt, kA, kB, kZ, kL, c1, c2, c3, c4, c5, d1, d2, d3, d5, e1, e2, e3, e5, f1, f2, f3, f5, t1, t2, t3, t5, c, v1, w3]
      exact ⟨_, by omega, hI _ _ _ ⟨gr.app _, k + 1, hlt, rfl, rfl⟩⟩
    · rw [if_neg c] at v3
      rw [v2] at f3
      rw [v3] at t3
      have vv : (rows[k].l != rows[k].l) = false := by simp
      simp [wpk_skip, wpk_seq, k_cond, wpk_block, wpk_exit, wpk_ret, wpk_loop, k_ops, k_draw0, t_nil, t_cons, KT_eq, KD_eq, wpo_nil, k_cons, k_step, mt_some, mtk_some, KO_eq, KP_eq, K_normal, K_ret, K_exit, KB_normal, KB_ret, KB_exit, KL_normal, KL_ret, KL_exit, k_ret, k_normal, stepE, isCall, calleeE, opE, wantE, odE, odS, odL, odSL, fget, fput, initE, keepF, List.map_cons, List.map_nil, binE, intOp, strOp, shOp, unE, eqpE, eqnE, neqB, ressE, resE, packL, packE, flat1, fcells, fillE, setL, cellsOf_bind, cellsO_own, cellsO_ro, lenE_sl, lenE_nils, lenE_sl0, bound, rep, minE, maxE, List.getElem?_cons_zero, List.getElem?_cons_succ, get_lt, set_lt, get_len, get_len_add, set_len, set_len_add, List.append_assoc, List.cons_append, List.nil_append, -getElem?_pos, l5_0_2, l5_0_1, l5_0, hlt, kA, kB, kZ, kL, c1, c2, c3, c4, c5, d1, d2, d3, d5, e1, e2, e3, e5, f1, f2, f3, f5, t1, t2, t3, t5, c, v1, w3]
      exact ⟨_, by omega, hI _ _ _ ⟨gr.app _, k + 1, hlt, rfl, rfl⟩⟩
  · obtain rfl : k = rows.length := by omega
    have tA := b1 A.length
    have tB := b2 B.length
    rw [List.take_length] at tA tB
    have u1' := used_ok (r1.gr gr) (by omega) fun k _ => by have := b1 k; omega
    have u2' := used_ok (r2.gr gr) (by omega) fun k _ => by have := b2 k; omega
    have w4 : IntKind.i64.wrap (B.sum - A.sum) = B.sum - A.sum := wrap_small (by omega) (by omega)
    have v1 : B.sum - A.sum ≤ mo := by omega
    simp [wpk_skip, wpk_seq, k_cond, wpk_block, wpk_exit, wpk_ret, wpk_loop, k_ops, k_draw0, t_nil, t_cons, KT_eq, KD_eq, wpo_nil, k_cons, k_step, mt_some, mtk_some, KO_eq, KP_eq, K_normal, K_ret, K_exit, KB_normal, KB_ret, KB_exit, KL_normal, KL_ret, KL_exit, k_ret, k_normal, stepE, isCall, calleeE, opE, wantE, odE, odS, odL, odSL, fget, fput, initE, keepF, List.map_cons, List.map_nil, binE, intOp, strOp, shOp, unE, eqpE, eqnE, neqB, ressE, resE, packL, packE, flat1, fcells, fillE, setL, cellsOf_bind, cellsO_own, cellsO_ro, lenE_sl, lenE_nils, lenE_sl0, bound, rep, minE, maxE, List.getElem?_cons_zero, List.getElem?_cons_succ, get_lt, set_lt, get_len, get_len_add, set_len, set_len_add, List.append_assoc, List.cons_append, List.nil_append, -getElem?_pos, l5_0_2, l5_0_1, l5_0, hlt, s5_6, u1', u2', w4, v1, p5]
    refine WPc.go (wakes_ok _) ?_
    rintro _ h6 ⟨_, rfl⟩
    simp [wpk_skip, wpk_seq, k_cond, wpk_block, wpk_exit, wpk_ret, wpk_loop, k_ops, k_draw0, t_nil, t_cons, KT_eq, KD_eq, wpo_nil, k_cons, k_step, mt_some, mtk_some, KO_eq, KP_eq, K_normal, K_ret, K_exit, KB_normal, KB_ret, KB_exit, KL_normal, KL_ret, KL_exit, k_ret, k_normal, stepE, isCall, calleeE, opE, wantE, odE, odS, odL, odSL, fget, fput, initE, keepF, List.map_cons, List.map_nil, binE, intOp, strOp, shOp, unE, eqpE, eqnE, neqB, ressE, resE, packL, packE, flat1, fcells, fillE, setL, cellsOf_bind, cellsO_own, cellsO_ro, lenE_sl, lenE_nils, lenE_sl0, bound, rep, minE, maxE, List.getElem?_cons_zero, List.getElem?_cons_succ, get_lt, set_lt, get_len, get_len_add, set_len, set_len_add, List.append_assoc, List.cons_append, List.nil_append, -getElem?_pos, ]
    exact hΨ _ _ rfl
end Go.Proofs.Ytfnihfcdoibleaa.Ev.CU
