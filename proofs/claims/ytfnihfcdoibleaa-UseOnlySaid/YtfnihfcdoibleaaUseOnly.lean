/- UseOnly on the small machine. -/
import Derived.Test.YtfnihfcdoibleaaUseOnlyP
set_option linter.unusedSimpArgs false
set_option linter.unusedVariables false
namespace Go.Proofs.Ytfnihfcdoibleaa.Ev.CU
open Go

theorem rightR_cons (y room sum there : Int) (whole : Bool) (v : Vi) (r : List Vi) (u : Int) (us : List Int) : rightR y room sum there whole (v :: r) (u :: us) = if stepR y whole v u then false else rightR y room (sum + u) (thereR y there v) (wholeR y whole v u) r us := rfl
theorem rightR_nil (y room sum there : Int) (whole : Bool) : rightR y room sum there whole [] [] = (sum == min there room) := rfl

set_option maxRecDepth 20000 in
set_option maxHeartbeats 4000000 in
theorem right18_ok {h : LH} {v w : SV} {rows : List Vi} {U : List Int} (rr : Rd h 37 3 encV v rows) (g : Good rows) (ru : Rd h 3 1 encI w U) (hU : U.length = rows.length) (y : Int) {room : Int} (hr : 0 ≤ room ∧ room < 5000) :
    WPc C 18 [.s v, .s (.int .i64 y), .s (.int .i64 room), .s w] h fun u h' => Gr h h' ∧ u = .s (.bool (rightR y room 0 0 true rows U)) := by
  refine WPc.post fun Ψ hΨ => ?_
  refine WPc.intro (e := e18) rfl (by simp [e18]) ?_
  show WPk C b18 _ _ (KR [.tmp 8] _)
  have hl := g.len
  have q1 : ((U.length : Int) != rows.length) = false := by simp [hU]
  simp [wpk_skip, wpk_seq, k_cond, wpk_block, wpk_exit, wpk_ret, wpk_loop, k_ops, k_draw0, t_nil, t_cons, KT_eq, KD_eq, wpo_nil, k_cons, k_step, mt_some, mtk_some, KO_eq, KP_eq, K_normal, K_ret, K_exit, KB_normal, KB_ret, KB_exit, KL_normal, KL_ret, KL_exit, k_ret, k_normal, stepE, isCall, calleeE, opE, wantE, odE, odS, odL, odSL, fget, fput, initE, keepF, List.map_cons, List.map_nil, binE, intOp, strOp, shOp, unE, eqpE, eqnE, neqB, ressE, resE, packL, packE, flat1, fcells, fillE, setL, cellsOf_bind, cellsO_own, cellsO_ro, lenE_sl, lenE_nils, lenE_sl0, bound, rep, minE, maxE, List.getElem?_cons_zero, List.getElem?_cons_succ, get_lt, set_lt, get_len, get_len_add, set_len, set_len_add, List.append_assoc, List.cons_append, List.nil_append, -getElem?_pos, b18, s18_5, s18_4, s18_3, s18_2, s18_1, rr.len, ru.len, q1]
  refine WPl.inv2 (fun n fr h' => Gr h h' ∧ ∃ (k : Nat) (sum there : Int) (whole : Bool), k ≤ rows.length ∧ n = rows.length - k ∧ 0 ≤ sum ∧ sum ≤ 100000000000 * k ∧ 0 ≤ there ∧ there ≤ 100000000000 * k ∧ rightR y room sum there whole (rows.drop k) (U.drop k) = rightR y room 0 0 true rows U ∧
    fr = [(1, some (.s (.int .i64 y))), (2, some (.s (.int .i64 room))), (3, some (.s w)), (9, some (.s (.int .i64 sum))), (10, some (.s (.int .i64 there))), (11, some (.s (.bool whole))), (19, some (.s v)), (20, some (.s (.int .i64 rows.length))), (21, some (.s (.int .i64 k)))]) ?_ _ _ _ ⟨Gr.refl _, 0, 0, 0, true, Nat.zero_le _, rfl, by omega, by omega, by omega, by omega, rfl, rfl⟩
  rintro I hI n fr h' ⟨gr, k, sum, there, whole, hk, rfl, s0, s1, t0, t1, he, rfl⟩
  refine ⟨by simp [keepF, fget], ?_⟩
  by_cases hlt : k < rows.length
  · have kU : k < U.length := by omega
    obtain ⟨j0, o0, p0, ob0, vs0, rfl, c1, c2, c3, c4, -⟩ := (rr.gr gr).at encV_len hlt
    obtain ⟨j1, o1, p1, ob1, vs1, rfl, d1, d2, d3⟩ := (ru.gr gr).int kU
    have c5 := lt_of_some c1
    have d5 := lt_of_some d1
    have hb := g.bound hlt
    simp only [encV] at c4
    rw [List.drop_eq_getElem_cons hlt, List.drop_eq_getElem_cons kU, rightR_cons] at he
    have w3 : IntKind.i64.wrap ((k : Int) + 1) = ((k + 1 : Nat) : Int) := wrap_small (by omega) (by omega)
    have w5 : IntKind.i64.wrap (there + rows[k].l) = there + rows[k].l := wrap_small (by omega) (by omega)
    generalize U[k] = u at *
    generalize hrow : rows[k] = row at *
    cases hst : stepR y whole row u with
    | true =>
      rw [hst, if_pos rfl] at he
      have fin : ∀ hh, Gr h hh → Ψ (.s (.bool false)) hh := fun hh gg => hΨ _ _ ⟨gg, by rw [← he]⟩
      by_cases a1 : u < 0
      · simp [wpk_skip, wpk_seq, k_cond, wpk_block, wpk_exit, wpk_ret, wpk_loop, k_ops, k_draw0, t_nil, t_cons, KT_eq, KD_eq, wpo_nil, k_cons, k_step, mt_some, mtk_some, KO_eq, KP_eq, K_normal, K_ret, K_exit, KB_normal, KB_ret, KB_exit, KL_normal, KL_ret, KL_exit, k_ret, k_normal, stepE, isCall, calleeE, opE, wantE, odE, odS, odL, odSL, fget, fput, initE, keepF, List.map_cons, List.map_nil, binE, intOp, strOp, shOp, unE, eqpE, eqnE, neqB, ressE, resE, packL, packE, flat1, fcells, fillE, setL, cellsOf_bind, cellsO_own, cellsO_ro, lenE_sl, lenE_nils, lenE_sl0, bound, rep, minE, maxE, List.getElem?_cons_zero, List.getElem?_cons_succ, get_lt, set_lt, get_len, get_len_add, set_len, set_len_add, List.append_assoc, List.cons_append, List.nil_append, -getElem?_pos, l18_0_2, l18_0_1, l18_0, hlt, kU, c1, c2, c3, c4, c5, d1, d2, d3, d5, a1]
        exact fin _ (gr.app _)
      by_cases a2 : u > row.l
      · simp [wpk_skip, wpk_seq, k_cond, wpk_block, wpk_exit, wpk_ret, wpk_loop, k_ops, k_draw0, t_nil, t_cons, KT_eq, KD_eq, wpo_nil, k_cons, k_step, mt_some, mtk_some, KO_eq, KP_eq, K_normal, K_ret, K_exit, KB_normal, KB_ret, KB_exit, KL_normal, KL_ret, KL_exit, k_ret, k_normal, stepE, isCall, calleeE, opE, wantE, odE, odS, odL, odSL, fget, fput, initE, keepF, List.map_cons, List.map_nil, binE, intOp, strOp, shOp, unE, eqpE, eqnE, neqB, ressE, resE, packL, packE, flat1, fcells, fillE, setL, cellsOf_bind, cellsO_own, cellsO_ro, lenE_sl, lenE_nils, lenE_sl0, bound, rep, minE, maxE, List.getElem?_cons_zero, List.getElem?_cons_succ, get_lt, set_lt, get_len, get_len_add, set_len, set_len_add, List.append_assoc, List.cons_append, List.nil_append, -getElem?_pos, l18_0_2, l18_0_1, l18_0, hlt, kU, c1, c2, c3, c4, c5, d1, d2, d3, d5, a1, a2]
        exact fin _ (gr.app _)
      by_cases a3 : row.e < y ∧ u ≠ 0
      · have a4 : (u != 0) = true := by simpa using a3.2
        simp [wpk_skip, wpk_seq, k_cond, wpk_block, wpk_exit, wpk_ret, wpk_loop, k_ops, k_draw0, t_nil, t_cons, KT_eq, KD_eq, wpo_nil, k_cons, k_step, mt_some, mtk_some, KO_eq, KP_eq, K_normal, K_ret, K_exit, KB_normal, KB_ret, KB_exit, KL_normal, KL_ret, KL_exit, k_ret, k_normal, stepE, isCall, calleeE, opE, wantE, odE, odS, odL, odSL, fget, fput, initE, keepF, List.map_cons, List.map_nil, binE, intOp, strOp, shOp, unE, eqpE, eqnE, neqB, ressE, resE, packL, packE, flat1, fcells, fillE, setL, cellsOf_bind, cellsO_own, cellsO_ro, lenE_sl, lenE_nils, lenE_sl0, bound, rep, minE, maxE, List.getElem?_cons_zero, List.getElem?_cons_succ, get_lt, set_lt, get_len, get_len_add, set_len, set_len_add, List.append_assoc, List.cons_append, List.nil_append, -getElem?_pos, l18_0_2, l18_0_1, l18_0, hlt, kU, c1, c2, c3, c4, c5, d1, d2, d3, d5, a1, a2, a3.1, a4]
        exact fin _ (gr.app _)
      · have a4 : 0 < u ∧ whole = false := by
          apply Classical.byContradiction
          intro hn
          have : stepR y whole row u = false := step_no.2 ⟨by omega, by omega, fun q => by apply Classical.byContradiction; exact fun z => a3 ⟨q, z⟩, fun q => by cases whole; exact absurd ⟨q, rfl⟩ hn; rfl⟩
          rw [this] at hst; cases hst
        obtain ⟨a4, rfl⟩ := a4
        have a5 : ¬ row.e < y := fun q => a3 ⟨q, by omega⟩
        simp [wpk_skip, wpk_seq, k_cond, wpk_block, wpk_exit, wpk_ret, wpk_loop, k_ops, k_draw0, t_nil, t_cons, KT_eq, KD_eq, wpo_nil, k_cons, k_step, mt_some, mtk_some, KO_eq, KP_eq, K_normal, K_ret, K_exit, KB_normal, KB_ret, KB_exit, KL_normal, KL_ret, KL_exit, k_ret, k_normal, stepE, isCall, calleeE, opE, wantE, odE, odS, odL, odSL, fget, fput, initE, keepF, List.map_cons, List.map_nil, binE, intOp, strOp, shOp, unE, eqpE, eqnE, neqB, ressE, resE, packL, packE, flat1, fcells, fillE, setL, cellsOf_bind, cellsO_own, cellsO_ro, lenE_sl, lenE_nils, lenE_sl0, bound, rep, minE, maxE, List.getElem?_cons_zero, List.getElem?_cons_succ, get_lt, set_lt, get_len, get_len_add, set_len, set_len_add, List.append_assoc, List.cons_append, List.nil_append, -getElem?_pos, l18_0_2, l18_0_1, l18_0, hlt, kU, c1, c2, c3, c4, c5, d1, d2, d3, d5, a1, a2, a4, a5]
        exact fin _ (gr.app _)
    | false =>
      rw [hst] at he
      simp only [Bool.false_eq_true, if_false] at he
      obtain ⟨a1, a2, a3, a4⟩ := step_no.1 hst
      have a1' : ¬ u < 0 := by omega
      have a2' : ¬ row.l < u := by omega
      have w4 : IntKind.i64.wrap (sum + u) = sum + u := wrap_small (by omega) (by omega)
      have fin : ∀ (fr' : Fr) (hh : LH), Gr h hh → fr' = [(1, some (.s (.int .i64 y))), (2, some (.s (.int .i64 room))), (3, some (.s (.sl j1 o1 p1 U.length))), (9, some (.s (.int .i64 (sum + u)))), (10, some (.s (.int .i64 (thereR y there row)))), (11, some (.s (.bool (wholeR y whole row u)))), (19, some (.s (.sl j0 o0 p0 rows.length))), (20, some (.s (.int .i64 rows.length))), (21, some (.s (.int .i64 ((k + 1 : Nat) : Int))))] → ∃ m, m < rows.length - k ∧ I m fr' hh := by
        intro fr' hh gg hfr
        refine ⟨rows.length - (k + 1), by omega, hI _ _ _ ⟨gg, k + 1, sum + u, thereR y there row, wholeR y whole row u, hlt, rfl, by omega, by omega, ?_, ?_, he, hfr⟩⟩
        · unfold thereR; split <;> omega
        · unfold thereR; split <;> omega
      by_cases a5 : row.e < y
      · have a6 := a3 a5
        subst a6
        have e1 : thereR y there row = there := by unfold thereR; rw [if_neg (by omega)]
        have e2 : wholeR y whole row 0 = whole := by unfold wholeR; rw [if_neg (by omega)]
        have a7 : ¬ y ≤ row.e := by omega
        rw [e1, e2] at fin
        simp only [Int.add_zero] at fin w4
        cases whole <;>
        · simp [wpk_skip, wpk_seq, k_cond, wpk_block, wpk_exit, wpk_ret, wpk_loop, k_ops, k_draw0, t_nil, t_cons, KT_eq, KD_eq, wpo_nil, k_cons, k_step, mt_some, mtk_some, KO_eq, KP_eq, K_normal, K_ret, K_exit, KB_normal, KB_ret, KB_exit, KL_normal, KL_ret, KL_exit, k_ret, k_normal, stepE, isCall, calleeE, opE, wantE, odE, odS, odL, odSL, fget, fput, initE, keepF, List.map_cons, List.map_nil, binE, intOp, strOp, shOp, unE, eqpE, eqnE, neqB, ressE, resE, packL, packE, flat1, fcells, fillE, setL, cellsOf_bind, cellsO_own, cellsO_ro, lenE_sl, lenE_nils, lenE_sl0, bound, rep, minE, maxE, List.getElem?_cons_zero, List.getElem?_cons_succ, get_lt, set_lt, get_len, get_len_add, set_len, set_len_add, List.append_assoc, List.cons_append, List.nil_append, -getElem?_pos, l18_0_2, l18_0_1, l18_0, hlt, kU, c1, c2, c3, c4, c5, d1, d2, d3, d5, a1', a2', a5, a7, w3, w4]
          exact fin _ _ (gr.app _) rfl
      · have e1 : thereR y there row = there + row.l := by unfold thereR; rw [if_pos (by omega)]
        have e2 : wholeR y whole row u = (whole && (u == row.l)) := by unfold wholeR; rw [if_pos (by omega)]
        have a7 : y ≤ row.e := by omega
        rw [e1, e2] at fin
        cases whole with
        | false =>
          have a8 : ¬ 0 < u := fun q => by have := a4 q; cases this
          simp [wpk_skip, wpk_seq, k_cond, wpk_block, wpk_exit, wpk_ret, wpk_loop, k_ops, k_draw0, t_nil, t_cons, KT_eq, KD_eq, wpo_nil, k_cons, k_step, mt_some, mtk_some, KO_eq, KP_eq, K_normal, K_ret, K_exit, KB_normal, KB_ret, KB_exit, KL_normal, KL_ret, KL_exit, k_ret, k_normal, stepE, isCall, calleeE, opE, wantE, odE, odS, odL, odSL, fget, fput, initE, keepF, List.map_cons, List.map_nil, binE, intOp, strOp, shOp, unE, eqpE, eqnE, neqB, ressE, resE, packL, packE, flat1, fcells, fillE, setL, cellsOf_bind, cellsO_own, cellsO_ro, lenE_sl, lenE_nils, lenE_sl0, bound, rep, minE, maxE, List.getElem?_cons_zero, List.getElem?_cons_succ, get_lt, set_lt, get_len, get_len_add, set_len, set_len_add, List.append_assoc, List.cons_append, List.nil_append, -getElem?_pos, l18_0_2, l18_0_1, l18_0, hlt, kU, c1, c2, c3, c4, c5, d1, d2, d3, d5, a1', a2', a5, a7, a8, w3, w4, w5]
          exact fin _ _ (gr.app _) rfl
        | true =>
          by_cases a8 : 0 < u
          · simp [wpk_skip, wpk_seq, k_cond, wpk_block, wpk_exit, wpk_ret, wpk_loop, k_ops, k_draw0, t_nil, t_cons, KT_eq, KD_eq, wpo_nil, k_cons, k_step, mt_some, mtk_some, KO_eq, KP_eq, K_normal, K_ret, K_exit, KB_normal, KB_ret, KB_exit, KL_normal, KL_ret, KL_exit, k_ret, k_normal, stepE, isCall, calleeE, opE, wantE, odE, odS, odL, odSL, fget, fput, initE, keepF, List.map_cons, List.map_nil, binE, intOp, strOp, shOp, unE, eqpE, eqnE, neqB, ressE, resE, packL, packE, flat1, fcells, fillE, setL, cellsOf_bind, cellsO_own, cellsO_ro, lenE_sl, lenE_nils, lenE_sl0, bound, rep, minE, maxE, List.getElem?_cons_zero, List.getElem?_cons_succ, get_lt, set_lt, get_len, get_len_add, set_len, set_len_add, List.append_assoc, List.cons_append, List.nil_append, -getElem?_pos, l18_0_2, l18_0_1, l18_0, hlt, kU, c1, c2, c3, c4, c5, d1, d2, d3, d5, a1', a2', a5, a7, a8, w3, w4, w5]
            exact fin _ _ (gr.app _) rfl
          · simp [wpk_skip, wpk_seq, k_cond, wpk_block, wpk_exit, wpk_ret, wpk_loop, k_ops, k_draw0, t_nil, t_cons, KT_eq, KD_eq, wpo_nil, k_cons, k_step, mt_some, mtk_some, KO_eq, KP_eq, K_normal, K_ret, K_exit, KB_normal, KB_ret, KB_exit, KL_normal, KL_ret, KL_exit, k_ret, k_normal, stepE, isCall, calleeE, opE, wantE, odE, odS, odL, odSL, fget, fput, initE, keepF, List.map_cons, List.map_nil, binE, intOp, strOp, shOp, unE, eqpE, eqnE, neqB, ressE, resE, packL, packE, flat1, fcells, fillE, setL, cellsOf_bind, cellsO_own, cellsO_ro, lenE_sl, lenE_nils, lenE_sl0, bound, rep, minE, maxE, List.getElem?_cons_zero, List.getElem?_cons_succ, get_lt, set_lt, get_len, get_len_add, set_len, set_len_add, List.append_assoc, List.cons_append, List.nil_append, -getElem?_pos, l18_0_2, l18_0_1, l18_0, hlt, kU, c1, c2, c3, c4, c5, d1, d2, d3, d5, a1', a2', a5, a7, a8, w3, w4, w5]
            exact fin _ _ (gr.app _) rfl
  · obtain rfl : k = rows.length := by omega
    rw [List.drop_eq_nil_of_le (Nat.le_refl _), List.drop_eq_nil_of_le (by omega), rightR_nil] at he
    have hm : (if room < there then room else there) = min there room := by split <;> omega
    simp [wpk_skip, wpk_seq, k_cond, wpk_block, wpk_exit, wpk_ret, wpk_loop, k_ops, k_draw0, t_nil, t_cons, KT_eq, KD_eq, wpo_nil, k_cons, k_step, mt_some, mtk_some, KO_eq, KP_eq, K_normal, K_ret, K_exit, KB_normal, KB_ret, KB_exit, KL_normal, KL_ret, KL_exit, k_ret, k_normal, stepE, isCall, calleeE, opE, wantE, odE, odS, odL, odSL, fget, fput, initE, keepF, List.map_cons, List.map_nil, binE, intOp, strOp, shOp, unE, eqpE, eqnE, neqB, ressE, resE, packL, packE, flat1, fcells, fillE, setL, cellsOf_bind, cellsO_own, cellsO_ro, lenE_sl, lenE_nils, lenE_sl0, bound, rep, minE, maxE, List.getElem?_cons_zero, List.getElem?_cons_succ, get_lt, set_lt, get_len, get_len_add, set_len, set_len_add, List.append_assoc, List.cons_append, List.nil_append, -getElem?_pos, l18_0_2, l18_0_1, l18_0, hlt, hm]
    exact hΨ _ _ ⟨gr, by rw [← he]⟩

set_option maxHeartbeats 4000000 in
theorem useOnly_ok {h0 : LH} {av bv : SV} {zs os : List Int} (ha : IntA h0 3 av zs) (year room : Int) (hb : IntA h0 3 bv os) (hz : ∀ z ∈ zs, (Lit.int .i64 z).wf = true) (ho : ∀ z ∈ os, (Lit.int .i64 z).wf = true) (hy : is64 year) (hr : is64 room) :
    ∃ h', callX C 3 [.s av, .s (.int .i64 year), .s (.int .i64 room), .s bv] h0 = some (.s (.bool true), h') ∧ True := by
  suffices w : WPc C 3 [.s av, .s (.int .i64 year), .s (.int .i64 room), .s bv] h0 fun u _ => u = .s (.bool true) by
    obtain ⟨v, h', e, rfl⟩ := w
    exact ⟨h', e, trivial⟩
  refine WPc.post fun Ψ hΨ => ?_
  refine WPc.intro (e := e3) rfl (by simp [e3]) ?_
  show WPk C b3 _ _ (KR [.tmp 8] _)
  have y1 := fun h => within_ok year 9 (by omega) h
  have y2 := fun h => within_ok room 5000 (by omega) h
  have r0 : 0 ≤ room % 5000 ∧ room % 5000 < 5000 := by omega
  generalize year % 9 = y at y1
  generalize room % 5000 = ro at y2 r0
  simp [wpk_skip, wpk_seq, k_cond, wpk_block, wpk_exit, wpk_ret, wpk_loop, k_ops, k_draw0, t_nil, t_cons, KT_eq, KD_eq, wpo_nil, k_cons, k_step, mt_some, mtk_some, KO_eq, KP_eq, K_normal, K_ret, K_exit, KB_normal, KB_ret, KB_exit, KL_normal, KL_ret, KL_exit, k_ret, k_normal, stepE, isCall, calleeE, opE, wantE, odE, odS, odL, odSL, fget, fput, initE, keepF, List.map_cons, List.map_nil, binE, intOp, strOp, shOp, unE, eqpE, eqnE, neqB, ressE, resE, packL, packE, flat1, fcells, fillE, setL, cellsOf_bind, cellsO_own, cellsO_ro, lenE_sl, lenE_nils, lenE_sl0, bound, rep, minE, maxE, List.getElem?_cons_zero, List.getElem?_cons_succ, get_lt, set_lt, get_len, get_len_add, set_len, set_len_add, List.append_assoc, List.cons_append, List.nil_append, -getElem?_pos, b3, s3_1, s3_2, s3_3]
  refine WPc.go (losses_ok ha.rd fun z hz' => lit_64 (hz z hz')) ?_
  rintro _ h1 ⟨g1, i, w, rows, rfl, hi, rd, g⟩
  have x1 : max 0 ro = ro := by omega
  have hl := g.len
  simp [wpk_skip, wpk_seq, k_cond, wpk_block, wpk_exit, wpk_ret, wpk_loop, k_ops, k_draw0, t_nil, t_cons, KT_eq, KD_eq, wpo_nil, k_cons, k_step, mt_some, mtk_some, KO_eq, KP_eq, K_normal, K_ret, K_exit, KB_normal, KB_ret, KB_exit, KL_normal, KL_ret, KL_exit, k_ret, k_normal, stepE, isCall, calleeE, opE, wantE, odE, odS, odL, odSL, fget, fput, initE, keepF, List.map_cons, List.map_nil, binE, intOp, strOp, shOp, unE, eqpE, eqnE, neqB, ressE, resE, packL, packE, flat1, fcells, fillE, setL, cellsOf_bind, cellsO_own, cellsO_ro, lenE_sl, lenE_nils, lenE_sl0, bound, rep, minE, maxE, List.getElem?_cons_zero, List.getElem?_cons_succ, get_lt, set_lt, get_len, get_len_add, set_len, set_len_add, List.append_assoc, List.cons_append, List.nil_append, -getElem?_pos, y1, y2, hi]
  refine WPc.go (vec_ok rd g y (room := ro) (by unfold is64; omega)) ?_
  rw [x1]
  rintro _ h2 ⟨g2, u1, rfl, ow1⟩
  have l1 := vecF_len y rows ro
  have b1' := vec_each (y := y) g r0.1
  have key := fun (u : List Int) (hu : u.length = rows.length) => right_true (y := y) rows u 0 g.pos hu r0.1
  simp only [Int.sub_zero] at key
  have r1 := ow1.rd encI_len (z := 1)
  have rr := rd.gr g2
  generalize vecF y ro rows = A at *
  simp [wpk_skip, wpk_seq, k_cond, wpk_block, wpk_exit, wpk_ret, wpk_loop, k_ops, k_draw0, t_nil, t_cons, KT_eq, KD_eq, wpo_nil, k_cons, k_step, mt_some, mtk_some, KO_eq, KP_eq, K_normal, K_ret, K_exit, KB_normal, KB_ret, KB_exit, KL_normal, KL_ret, KL_exit, k_ret, k_normal, stepE, isCall, calleeE, opE, wantE, odE, odS, odL, odSL, fget, fput, initE, keepF, List.map_cons, List.map_nil, binE, intOp, strOp, shOp, unE, eqpE, eqnE, neqB, ressE, resE, packL, packE, flat1, fcells, fillE, setL, cellsOf_bind, cellsO_own, cellsO_ro, lenE_sl, lenE_nils, lenE_sl0, bound, rep, minE, maxE, List.getElem?_cons_zero, List.getElem?_cons_succ, get_lt, set_lt, get_len, get_len_add, set_len, set_len_add, List.append_assoc, List.cons_append, List.nil_append, -getElem?_pos, s3_4, s3_5]
  refine WPc.go (right18_ok rr g r1 l1 y r0) ?_
  rintro _ h3 ⟨g3, rfl⟩
  rw [(key A l1).2 rfl]
  simp [wpk_skip, wpk_seq, k_cond, wpk_block, wpk_exit, wpk_ret, wpk_loop, k_ops, k_draw0, t_nil, t_cons, KT_eq, KD_eq, wpo_nil, k_cons, k_step, mt_some, mtk_some, KO_eq, KP_eq, K_normal, K_ret, K_exit, KB_normal, KB_ret, KB_exit, KL_normal, KL_ret, KL_exit, k_ret, k_normal, stepE, isCall, calleeE, opE, wantE, odE, odS, odL, odSL, fget, fput, initE, keepF, List.map_cons, List.map_nil, binE, intOp, strOp, shOp, unE, eqpE, eqnE, neqB, ressE, resE, packL, packE, flat1, fcells, fillE, setL, cellsOf_bind, cellsO_own, cellsO_ro, lenE_sl, lenE_nils, lenE_sl0, bound, rep, minE, maxE, List.getElem?_cons_zero, List.getElem?_cons_succ, get_lt, set_lt, get_len, get_len_add, set_len, set_len_add, List.append_assoc, List.cons_append, List.nil_append, -getElem?_pos, ]
  refine WPc.go (copy_ok (r1.gr g3) (by omega)) ?_
  rintro _ h4 ⟨g4, u2, rfl, ow2⟩
  have ob := (((((hb.rd.gr g1).gr g2).gr g3).gr g4))
  have hlen : ∃ n, n = A.length := ⟨_, rfl⟩
  simp [wpk_skip, wpk_seq, k_cond, wpk_block, wpk_exit, wpk_ret, wpk_loop, k_ops, k_draw0, t_nil, t_cons, KT_eq, KD_eq, wpo_nil, k_cons, k_step, mt_some, mtk_some, KO_eq, KP_eq, K_normal, K_ret, K_exit, KB_normal, KB_ret, KB_exit, KL_normal, KL_ret, KL_exit, k_ret, k_normal, stepE, isCall, calleeE, opE, wantE, odE, odS, odL, odSL, fget, fput, initE, keepF, List.map_cons, List.map_nil, binE, intOp, strOp, shOp, unE, eqpE, eqnE, neqB, ressE, resE, packL, packE, flat1, fcells, fillE, setL, cellsOf_bind, cellsO_own, cellsO_ro, lenE_sl, lenE_nils, lenE_sl0, bound, rep, minE, maxE, List.getElem?_cons_zero, List.getElem?_cons_succ, get_lt, set_lt, get_len, get_len_add, set_len, set_len_add, List.append_assoc, List.cons_append, List.nil_append, -getElem?_pos, s3_6, ow2.len]
  refine WPl.post (fun x fr' h' => x = .exit 0 ∧ Gr h3 h' ∧ fr' = [(1, some (.s (.int .i64 y))), (2, some (.s (.int .i64 ro))), (9, some (.s w)), (10, some (.s u1)), (11, some (.s u2))] ∧ ∃ W, Rd h' 3 1 encI u2 W ∧ W.length = A.length) (fun Φ hΦ => ?_) ?_
  · refine WPl.inv2 (fun n fr h' => Gr h3 h' ∧ ∃ k W, k ≤ A.length ∧ n = A.length - k ∧ Ow h3.length h' 3 encI u2 W ∧ W.length = A.length ∧ (∀ x ∈ W, -2 ≤ x ∧ x ≤ 100000000002 ∨ (0 ≤ x ∧ x ≤ 100000000000)) ∧ (∀ q (hq : q < W.length), k ≤ q → 0 ≤ W[q] ∧ W[q] ≤ 100000000000) ∧
      fr = [(1, some (.s (.int .i64 y))), (2, some (.s (.int .i64 ro))), (3, some (.s bv)), (9, some (.s w)), (10, some (.s u1)), (11, some (.s u2)), (35, some (.s (.int .i64 A.length))), (36, some (.s (.int .i64 k)))]) ?_ _ _ _ ⟨g4, 0, A, Nat.zero_le _, rfl, ow2, rfl, fun x hx => .inr (b1' x hx), fun q hq _ => b1' _ (List.getElem_mem hq), rfl⟩
    rintro I hI n fr h' ⟨gr, k, W, hk, rfl, oW, hW, bW, bQ, rfl⟩
    refine ⟨by simp [keepF, fget], ?_⟩
    have obl := hb.rd.len
    by_cases hlt : k < A.length
    · have w3 : IntKind.i64.wrap ((k : Int) + 1) = ((k + 1 : Nat) : Int) := wrap_small (by omega) (by omega)
      by_cases hlo : k < os.length
      · obtain ⟨j1, p1, q1', ob1, vs1, rfl, d1, d2, d3⟩ := (((((hb.rd.gr g1).gr g2).gr g3).gr gr)).int hlo
        have d5 := lt_of_some d1
        have kW : k < W.length := by omega
        obtain ⟨j3, i1, rfl, i2, i3⟩ := oW.int_at kW
        have i5 := lt_of_some i2
        have a1 := within_ok os[k] 5 (by omega)
        have a2 : 0 ≤ os[k] % 5 ∧ os[k] % 5 < 5 := by omega
        have hq := bQ k kW (Nat.le_refl _)
        generalize os[k] % 5 = d at a1 a2
        have w4 : IntKind.i64.wrap (d - 2) = d - 2 := wrap_small (by omega) (by omega)
        have w5 : IntKind.i64.wrap (W[k] + (d - 2)) = W[k] + (d - 2) := wrap_small (by omega) (by omega)
        have hget : (W.map (SV.int .i64))[k]? = some (.int .i64 W[k]) := by simp [kW]
        have t2 : k + 1 ≤ W.length := by omega
        simp [wpk_skip, wpk_seq, k_cond, wpk_block, wpk_exit, wpk_ret, wpk_loop, k_ops, k_draw0, t_nil, t_cons, KT_eq, KD_eq, wpo_nil, k_cons, k_step, mt_some, mtk_some, KO_eq, KP_eq, K_normal, K_ret, K_exit, KB_normal, KB_ret, KB_exit, KL_normal, KL_ret, KL_exit, k_ret, k_normal, stepE, isCall, calleeE, opE, wantE, odE, odS, odL, odSL, fget, fput, initE, keepF, List.map_cons, List.map_nil, binE, intOp, strOp, shOp, unE, eqpE, eqnE, neqB, ressE, resE, packL, packE, flat1, fcells, fillE, setL, cellsOf_bind, cellsO_own, cellsO_ro, lenE_sl, lenE_nils, lenE_sl0, bound, rep, minE, maxE, List.getElem?_cons_zero, List.getElem?_cons_succ, get_lt, set_lt, get_len, get_len_add, set_len, set_len_add, List.append_assoc, List.cons_append, List.nil_append, -getElem?_pos, l3_0_2, l3_0_1, l3_0, hlt, hlo, obl]
        refine k_draw ?_
        simp [wpk_skip, wpk_seq, k_cond, wpk_block, wpk_exit, wpk_ret, wpk_loop, k_ops, k_draw0, t_nil, t_cons, KT_eq, KD_eq, wpo_nil, k_cons, k_step, mt_some, mtk_some, KO_eq, KP_eq, K_normal, K_ret, K_exit, KB_normal, KB_ret, KB_exit, KL_normal, KL_ret, KL_exit, k_ret, k_normal, stepE, isCall, calleeE, opE, wantE, odE, odS, odL, odSL, fget, fput, initE, keepF, List.map_cons, List.map_nil, binE, intOp, strOp, shOp, unE, eqpE, eqnE, neqB, ressE, resE, packL, packE, flat1, fcells, fillE, setL, cellsOf_bind, cellsO_own, cellsO_ro, lenE_sl, lenE_nils, lenE_sl0, bound, rep, minE, maxE, List.getElem?_cons_zero, List.getElem?_cons_succ, get_lt, set_lt, get_len, get_len_add, set_len, set_len_add, List.append_assoc, List.cons_append, List.nil_append, slotsG, slotsE, odT, odsT, optT, partsT, okPairs, okPair, -getElem?_pos, kW, hlo, d1, d2, d3, d5, i2, i5, a1, w4, w5, t2, hget, w3]
        refine ⟨_, by omega, hI _ _ _ ⟨gr.set _ i1, k + 1, W.set k (W[k] + (d - 2)), hlt, rfl, i3 _, by simp [hW], ?_, ?_, rfl⟩⟩
        · intro x hx'
          rcases List.mem_or_eq_of_mem_set hx' with hx' | rfl
          · exact bW x hx'
          · left; omega
        · intro q hq1 hq2
          rw [List.getElem_set_ne (by omega)]
          exact bQ q (by simpa using hq1) (by omega)
      · simp [wpk_skip, wpk_seq, k_cond, wpk_block, wpk_exit, wpk_ret, wpk_loop, k_ops, k_draw0, t_nil, t_cons, KT_eq, KD_eq, wpo_nil, k_cons, k_step, mt_some, mtk_some, KO_eq, KP_eq, K_normal, K_ret, K_exit, KB_normal, KB_ret, KB_exit, KL_normal, KL_ret, KL_exit, k_ret, k_normal, stepE, isCall, calleeE, opE, wantE, odE, odS, odL, odSL, fget, fput, initE, keepF, List.map_cons, List.map_nil, binE, intOp, strOp, shOp, unE, eqpE, eqnE, neqB, ressE, resE, packL, packE, flat1, fcells, fillE, setL, cellsOf_bind, cellsO_own, cellsO_ro, lenE_sl, lenE_nils, lenE_sl0, bound, rep, minE, maxE, List.getElem?_cons_zero, List.getElem?_cons_succ, get_lt, set_lt, get_len, get_len_add, set_len, set_len_add, List.append_assoc, List.cons_append, List.nil_append, -getElem?_pos, l3_0_2, l3_0_1, l3_0, hlt, hlo, obl, w3]
        exact ⟨_, by omega, hI _ _ _ ⟨gr, k + 1, W, hlt, rfl, oW, hW, bW, fun q hq1 hq2 => bQ q hq1 (by omega), rfl⟩⟩
    · simp [wpk_skip, wpk_seq, k_cond, wpk_block, wpk_exit, wpk_ret, wpk_loop, k_ops, k_draw0, t_nil, t_cons, KT_eq, KD_eq, wpo_nil, k_cons, k_step, mt_some, mtk_some, KO_eq, KP_eq, K_normal, K_ret, K_exit, KB_normal, KB_ret, KB_exit, KL_normal, KL_ret, KL_exit, k_ret, k_normal, stepE, isCall, calleeE, opE, wantE, odE, odS, odL, odSL, fget, fput, initE, keepF, List.map_cons, List.map_nil, binE, intOp, strOp, shOp, unE, eqpE, eqnE, neqB, ressE, resE, packL, packE, flat1, fcells, fillE, setL, cellsOf_bind, cellsO_own, cellsO_ro, lenE_sl, lenE_nils, lenE_sl0, bound, rep, minE, maxE, List.getElem?_cons_zero, List.getElem?_cons_succ, get_lt, set_lt, get_len, get_len_add, set_len, set_len_add, List.append_assoc, List.cons_append, List.nil_append, -getElem?_pos, l3_0_2, l3_0_1, l3_0, hlt]
      exact hΦ _ _ _ ⟨rfl, gr, rfl, W, oW.rd encI_len, hW⟩
  · rintro x fr' h5 ⟨rfl, g5, rfl, W, rW, hW⟩
    simp [wpk_skip, wpk_seq, k_cond, wpk_block, wpk_exit, wpk_ret, wpk_loop, k_ops, k_draw0, t_nil, t_cons, KT_eq, KD_eq, wpo_nil, k_cons, k_step, mt_some, mtk_some, KO_eq, KP_eq, K_normal, K_ret, K_exit, KB_normal, KB_ret, KB_exit, KL_normal, KL_ret, KL_exit, k_ret, k_normal, stepE, isCall, calleeE, opE, wantE, odE, odS, odL, odSL, fget, fput, initE, keepF, List.map_cons, List.map_nil, binE, intOp, strOp, shOp, unE, eqpE, eqnE, neqB, ressE, resE, packL, packE, flat1, fcells, fillE, setL, cellsOf_bind, cellsO_own, cellsO_ro, lenE_sl, lenE_nils, lenE_sl0, bound, rep, minE, maxE, List.getElem?_cons_zero, List.getElem?_cons_succ, get_lt, set_lt, get_len, get_len_add, set_len, set_len_add, List.append_assoc, List.cons_append, List.nil_append, -getElem?_pos, s3_7]
    refine WPc.go (right18_ok ((rr.gr g3).gr g5) g rW (by omega) y r0) ?_
    rintro _ h6 ⟨g6, rfl⟩
    have hs := same_ok (((r1.gr g3).gr g5).gr g6) (rW.gr g6) (by omega)
    have hk := key W (by omega)
    have hdec : (rightR y ro 0 0 true rows W == decide (A = W)) = true := by
      by_cases e : A = W
      · rw [hk.2 e.symm, decide_eq_true e]; rfl
      · rw [decide_eq_false e]
        cases hx : rightR y ro 0 0 true rows W with
        | true => exact absurd (hk.1 hx).symm e
        | false => rfl
    simp [wpk_skip, wpk_seq, k_cond, wpk_block, wpk_exit, wpk_ret, wpk_loop, k_ops, k_draw0, t_nil, t_cons, KT_eq, KD_eq, wpo_nil, k_cons, k_step, mt_some, mtk_some, KO_eq, KP_eq, K_normal, K_ret, K_exit, KB_normal, KB_ret, KB_exit, KL_normal, KL_ret, KL_exit, k_ret, k_normal, stepE, isCall, calleeE, opE, wantE, odE, odS, odL, odSL, fget, fput, initE, keepF, List.map_cons, List.map_nil, binE, intOp, strOp, shOp, unE, eqpE, eqnE, neqB, ressE, resE, packL, packE, flat1, fcells, fillE, setL, cellsOf_bind, cellsO_own, cellsO_ro, lenE_sl, lenE_nils, lenE_sl0, bound, rep, minE, maxE, List.getElem?_cons_zero, List.getElem?_cons_succ, get_lt, set_lt, get_len, get_len_add, set_len, set_len_add, List.append_assoc, List.cons_append, List.nil_append, -getElem?_pos, hs, hdec]
    refine WPc.go (wakes_ok _) ?_
    rintro _ h7 ⟨_, rfl⟩
    simp [wpk_skip, wpk_seq, k_cond, wpk_block, wpk_exit, wpk_ret, wpk_loop, k_ops, k_draw0, t_nil, t_cons, KT_eq, KD_eq, wpo_nil, k_cons, k_step, mt_some, mtk_some, KO_eq, KP_eq, K_normal, K_ret, K_exit, KB_normal, KB_ret, KB_exit, KL_normal, KL_ret, KL_exit, k_ret, k_normal, stepE, isCall, calleeE, opE, wantE, odE, odS, odL, odSL, fget, fput, initE, keepF, List.map_cons, List.map_nil, binE, intOp, strOp, shOp, unE, eqpE, eqnE, neqB, ressE, resE, packL, packE, flat1, fcells, fillE, setL, cellsOf_bind, cellsO_own, cellsO_ro, lenE_sl, lenE_nils, lenE_sl0, bound, rep, minE, maxE, List.getElem?_cons_zero, List.getElem?_cons_succ, get_lt, set_lt, get_len, get_len_add, set_len, set_len_add, List.append_assoc, List.cons_append, List.nil_append, -getElem?_pos, ]
    exact hΨ _ _ rfl
end Go.Proofs.Ytfnihfcdoibleaa.Ev.CU
