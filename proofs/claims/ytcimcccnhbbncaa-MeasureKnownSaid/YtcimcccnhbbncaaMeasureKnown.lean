/- MeasureKnown on the small machine. -/
import Derived.Test.YtcimcccnhbbncaaRefT
import Derived.Test.YtcimcccnhbbncaaEvRow
set_option linter.unusedSimpArgs false
set_option linter.unusedVariables false
namespace Go.Proofs.Ytcimcccnhbbncaa.Ev.CE
open Go

def uk : ByteArray := ⟨#[117, 107]⟩
theorem uk_ne : uk.toList.isEmpty = false := by decide +kernel
theorem uk_arg {y r p : Int} (hy : 0 ≤ y ∧ y ≤ 99) (hr : 0 ≤ r ∧ r ≤ 1000000) (hp : 0 ≤ p ∧ p ≤ 399) : argOk uk y r p = true := by
  unfold argOk
  rw [uk_ne, decide_eq_true hy, decide_eq_true hr, decide_eq_true hp]; rfl
theorem addR_new {l : List Ro} {j : ByteArray} {y r p : Int} (h1 : argOk j y r p = true) (h2 : l.any (sameR j y p) = false) (h3 : l.length < 24) : addR l j y r p = (0, l ++ [⟨j, y, r, p⟩]) := by
  unfold addR
  rw [h1, h2, if_neg (by simp), if_neg (by simp), if_neg (by omega)]
def tab3 (a b y p : Int) : List Ro := [⟨uk, 0, a, 0⟩, ⟨uk, y + 1, b, p⟩, ⟨uk, y, 777, p + 1⟩]
theorem known_a {a b y p z q : Int} (hz : 0 ≤ z) (hq : 0 ≤ q) (h1 : z < y + 1 ∨ q < p) (h2 : z < y ∨ q < p + 1) : bestF uk z q (tab3 a b y p) = some ⟨uk, 0, a, 0⟩ := by
  have e : (uk.toList == uk.toList) = true := by simp
  simp only [tab3, bestF, List.foldl_cons, List.foldl_nil, stepB, e, Bool.true_eq_false, false_or]
  rw [if_neg (by omega : ¬ ((0 : Int) > z ∨ (0 : Int) > q)), if_pos (by omega : y + 1 > z ∨ p > q), if_pos (by omega : y > z ∨ p + 1 > q)]
theorem known_b {a b y p z q : Int} (hy : 0 ≤ y) (hz : y + 1 ≤ z) (hp : 0 ≤ p) (hq : p ≤ q) : bestF uk z q (tab3 a b y p) = some ⟨uk, y + 1, b, p⟩ := by
  have e : (uk.toList == uk.toList) = true := by simp
  simp only [tab3, bestF, List.foldl_cons, List.foldl_nil, stepB, e, Bool.true_eq_false, false_or]
  rw [if_neg (by omega : ¬ ((0 : Int) > z ∨ (0 : Int) > q)), if_neg (by omega : ¬ (y + 1 > z ∨ p > q))]
  dsimp only
  rw [if_pos (by omega : y + 1 > 0 ∨ y + 1 = 0 ∧ p > 0)]
  split
  · rfl
  · dsimp only
    rw [if_neg (by omega)]

set_option maxRecDepth 20000 in
set_option maxHeartbeats 8000000 in
theorem measureKnown_ok {h0 : LH} (aa bb at0 : Int) (ha : is64 aa) (hb : is64 bb) (hat : is64 at0) : ∃ h', callX C 6 [.s (.int .i64 aa), .s (.int .i64 bb), .s (.int .i64 at0)] h0 = some (.s (.bool true), h') ∧ True := by
  suffices w : WPc C 6 [.s (.int .i64 aa), .s (.int .i64 bb), .s (.int .i64 at0)] h0 fun u _ => u = .s (.bool true) by
    obtain ⟨v, h', e, rfl⟩ := w
    exact ⟨h', e, trivial⟩
  refine WPc.post fun Ψ hΨ => ?_
  refine WPc.intro (e := e6) rfl (by simp [e6]) ?_
  show WPk C b6 _ _ (KR [.tmp 6] _)
  have y1 := fun h => within_ok aa 1000001 (by omega) h
  have y2 := fun h => within_ok bb 1000001 (by omega) h
  have y3 := fun h => within_ok at0 97 (by omega) h
  have wd := tdiv_64 hat 97 (by omega)
  have y4 := fun h => within_ok (at0.tdiv 97) 4 (by omega) h
  have r1 : 0 ≤ aa % 1000001 ∧ aa % 1000001 < 1000001 := by omega
  have r2 : 0 ≤ bb % 1000001 ∧ bb % 1000001 < 1000001 := by omega
  have r3 : 0 ≤ at0 % 97 ∧ at0 % 97 < 97 := by omega
  have r4 : 0 ≤ at0.tdiv 97 % 4 ∧ at0.tdiv 97 % 4 < 4 := by omega
  generalize aa % 1000001 = a at y1 r1
  generalize bb % 1000001 = b at y2 r2
  generalize at0 % 97 = y0 at y3 r3
  generalize at0.tdiv 97 % 4 = d at y4 r4
  obtain ⟨y, hy⟩ : ∃ y, y = 1 + y0 := ⟨_, rfl⟩
  have w1 : IntKind.i64.wrap (1 + y0) = y := by rw [hy]; exact wrap_small (by omega) (by omega)
  have w2 : IntKind.i64.wrap (4 * y) = 4 * y := wrap_small (by omega) (by omega)
  obtain ⟨p, hp⟩ : ∃ p, p = 4 * y + d := ⟨_, rfl⟩
  have w3 : IntKind.i64.wrap (4 * y + d) = p := by rw [hp]; exact wrap_small (by omega) (by omega)
  have w4 : IntKind.i64.wrap (y + 1) = y + 1 := wrap_small (by omega) (by omega)
  have w5 : IntKind.i64.wrap (p + 1) = p + 1 := wrap_small (by omega) (by omega)
  have w6 : IntKind.i64.wrap (p - 1) = p - 1 := wrap_small (by omega) (by omega)
  have uke : (uk.toList == uk.toList) = true := by simp
  have t0 := rnew_rt h0
  have g0 := Gr.self h0 [LO.own 49 [.nils]]
  simp [wpk_skip, wpk_seq, k_cond, wpk_block, wpk_exit, wpk_ret, wpk_loop, k_ops, k_draw0, t_nil, t_cons, KT_eq, KD_eq, wpo_nil, k_cons, k_step, mt_some, mtk_some, KO_eq, KP_eq, K_normal, K_ret, K_exit, KB_normal, KB_ret, KB_exit, KL_normal, KL_ret, KL_exit, k_ret, k_normal, stepE, isCall, calleeE, opE, wantE, odE, odS, odL, odSL, fget, fput, initE, keepF, List.map_cons, List.map_nil, binE, intOp, strOp, shOp, unE, eqpE, eqnE, neqB, ressE, resE, packL, packE, flat1, fcells, fillE, setL, cellsOf_bind, cellsO_own, cellsO_ro, lenE_sl, lenE_nils, lenE_sl0, bound, rep, minE, maxE, List.getElem?_cons_zero, List.getElem?_cons_succ, get_lt, set_lt, get_len, get_len_add, set_len, set_len_add, List.append_assoc, List.cons_append, List.nil_append, -getElem?_pos, b6, s6_1, s6_2, s6_3, s6_4, s6_5, y1, y2, y3, y4, wd, w1, w2, w3]
  refine WPc.go (radd_ok t0 uk 0 a 0) ?_
  rintro _ h1 ⟨c1, rfl, v1, t1⟩
  have g1 := c1.rbase t0 g0
  rw [addR_new (uk_arg (by omega) (by omega) (by omega)) rfl (by simp)] at t1
  simp only [List.nil_append, List.cons_append] at t1
  simp [wpk_skip, wpk_seq, k_cond, wpk_block, wpk_exit, wpk_ret, wpk_loop, k_ops, k_draw0, t_nil, t_cons, KT_eq, KD_eq, wpo_nil, k_cons, k_step, mt_some, mtk_some, KO_eq, KP_eq, K_normal, K_ret, K_exit, KB_normal, KB_ret, KB_exit, KL_normal, KL_ret, KL_exit, k_ret, k_normal, stepE, isCall, calleeE, opE, wantE, odE, odS, odL, odSL, fget, fput, initE, keepF, List.map_cons, List.map_nil, binE, intOp, strOp, shOp, unE, eqpE, eqnE, neqB, ressE, resE, packL, packE, flat1, fcells, fillE, setL, cellsOf_bind, cellsO_own, cellsO_ro, lenE_sl, lenE_nils, lenE_sl0, bound, rep, minE, maxE, List.getElem?_cons_zero, List.getElem?_cons_succ, get_lt, set_lt, get_len, get_len_add, set_len, set_len_add, List.append_assoc, List.cons_append, List.nil_append, -getElem?_pos, s6_6, w4]
  refine WPc.go (radd_ok t1 uk (y + 1) b p) ?_
  rintro _ h2 ⟨c2, rfl, v2, t2⟩
  have g2 := c2.rbase t1 g1
  rw [addR_new (uk_arg (by omega) (by omega) (by omega)) (by simp [sameR, uke]; omega) (by simp)] at t2
  simp only [List.nil_append, List.cons_append] at t2
  simp [wpk_skip, wpk_seq, k_cond, wpk_block, wpk_exit, wpk_ret, wpk_loop, k_ops, k_draw0, t_nil, t_cons, KT_eq, KD_eq, wpo_nil, k_cons, k_step, mt_some, mtk_some, KO_eq, KP_eq, K_normal, K_ret, K_exit, KB_normal, KB_ret, KB_exit, KL_normal, KL_ret, KL_exit, k_ret, k_normal, stepE, isCall, calleeE, opE, wantE, odE, odS, odL, odSL, fget, fput, initE, keepF, List.map_cons, List.map_nil, binE, intOp, strOp, shOp, unE, eqpE, eqnE, neqB, ressE, resE, packL, packE, flat1, fcells, fillE, setL, cellsOf_bind, cellsO_own, cellsO_ro, lenE_sl, lenE_nils, lenE_sl0, bound, rep, minE, maxE, List.getElem?_cons_zero, List.getElem?_cons_succ, get_lt, set_lt, get_len, get_len_add, set_len, set_len_add, List.append_assoc, List.cons_append, List.nil_append, -getElem?_pos, s6_7, w5]
  refine WPc.go (radd_ok t2 uk y 777 (p + 1)) ?_
  rintro _ h3 ⟨c3, rfl, v3, t3⟩
  have g3 := c3.rbase t2 g2
  rw [addR_new (uk_arg (by omega) (by omega) (by omega)) (by simp [sameR, uke]; omega) (by simp)] at t3
  simp only [List.nil_append, List.cons_append] at t3
  have hval : Valid (tab3 a b y p) := by
    have e := valid_add (valid_add (valid_add valid_nil uk 0 a 0) uk (y + 1) b p) uk y 777 (p + 1)
    rw [addR_new (l := []) (uk_arg (by omega) (by omega) (by omega)) rfl (by simp)] at e
    simp only [List.nil_append] at e
    rw [addR_new (l := [⟨uk, 0, a, 0⟩]) (uk_arg (by omega) (by omega) (by omega)) (by simp [sameR, uke]; omega) (by simp)] at e
    simp only [List.nil_append, List.cons_append] at e
    rw [addR_new (uk_arg (by omega) (by omega) (by omega)) (by simp [sameR, uke]; omega) (by simp)] at e
    exact e
  have t3' : Rt h0.length h3 h0.length v3 (tab3 a b y p) := t3
  simp [wpk_skip, wpk_seq, k_cond, wpk_block, wpk_exit, wpk_ret, wpk_loop, k_ops, k_draw0, t_nil, t_cons, KT_eq, KD_eq, wpo_nil, k_cons, k_step, mt_some, mtk_some, KO_eq, KP_eq, K_normal, K_ret, K_exit, KB_normal, KB_ret, KB_exit, KL_normal, KL_ret, KL_exit, k_ret, k_normal, stepE, isCall, calleeE, opE, wantE, odE, odS, odL, odSL, fget, fput, initE, keepF, List.map_cons, List.map_nil, binE, intOp, strOp, shOp, unE, eqpE, eqnE, neqB, ressE, resE, packL, packE, flat1, fcells, fillE, setL, cellsOf_bind, cellsO_own, cellsO_ro, lenE_sl, lenE_nils, lenE_sl0, bound, rep, minE, maxE, List.getElem?_cons_zero, List.getElem?_cons_succ, get_lt, set_lt, get_len, get_len_add, set_len, set_len_add, List.append_assoc, List.cons_append, List.nil_append, -getElem?_pos, s6_8]
  refine WPc.go (of23_ok t3'.obj (t3'.rows.rd encR_len) hval) ?_
  rintro _ h4 ⟨g4, i4, v4, rfl, t4⟩
  simp [wpk_skip, wpk_seq, k_cond, wpk_block, wpk_exit, wpk_ret, wpk_loop, k_ops, k_draw0, t_nil, t_cons, KT_eq, KD_eq, wpo_nil, k_cons, k_step, mt_some, mtk_some, KO_eq, KP_eq, K_normal, K_ret, K_exit, KB_normal, KB_ret, KB_exit, KL_normal, KL_ret, KL_exit, k_ret, k_normal, stepE, isCall, calleeE, opE, wantE, odE, odS, odL, odSL, fget, fput, initE, keepF, List.map_cons, List.map_nil, binE, intOp, strOp, shOp, unE, eqpE, eqnE, neqB, ressE, resE, packL, packE, flat1, fcells, fillE, setL, cellsOf_bind, cellsO_own, cellsO_ro, lenE_sl, lenE_nils, lenE_sl0, bound, rep, minE, maxE, List.getElem?_cons_zero, List.getElem?_cons_succ, get_lt, set_lt, get_len, get_len_add, set_len, set_len_add, List.append_assoc, List.cons_append, List.nil_append, -getElem?_pos, s6_9, s6_10, w4]
  have o5 : (h4 ++ [LO.own 30 [.int .i64 1, .int .i64 0, .int .i64 1, .int .i64 1, .int .i64 y, .int .i64 1, .int .i64 1, .int .i64 (y + 1), .int .i64 1, .int .i64 1, .int .i64 99, .int .i64 1]])[h4.length]? = some (.own 30 (([⟨1, 0, 1⟩, ⟨1, y, 1⟩, ⟨1, y + 1, 1⟩, ⟨1, 99, 1⟩] : List Bu).flatMap encB)) := get_len
  have r5 := Rd.lit encB_len o5 (p := 0)
  have t5 := t4.gr (Gr.self h4 [LO.own 30 [.int .i64 1, .int .i64 0, .int .i64 1, .int .i64 1, .int .i64 y, .int .i64 1, .int .i64 1, .int .i64 (y + 1), .int .i64 1, .int .i64 1, .int .i64 99, .int .i64 1]])
  refine WPc.go (rates_ok t5 uk r5 (by simp) p) ?_
  rintro _ h6 ⟨g6, w6', rfl, rW⟩
  have pd : p / 4 = y := by omega
  have f6 : ratesF (tab3 a b y p) uk [⟨1, 0, 1⟩, ⟨1, y, 1⟩, ⟨1, y + 1, 1⟩, ⟨1, 99, 1⟩] p = ([a, a, b, b], 0) := by
    unfold ratesF
    rw [if_pos (by omega), ratesGo_cons, pd]
    simp only
    rw [known_a (z := max 0 y) (by omega) (by omega) (by omega) (by omega)]
    simp only
    rw [ratesGo_cons, pd, known_a (z := max y y) (by omega) (by omega) (by omega) (by omega)]
    simp only
    rw [ratesGo_cons, pd, known_b (z := max (y + 1) y) (by omega) (by omega) (by omega) (by omega)]
    simp only
    rw [ratesGo_cons, pd, known_b (z := max 99 y) (by omega) (by omega) (by omega) (by omega)]
    rfl
  rw [f6] at rW ⊢
  have t6 := t5.gr g6
  simp [wpk_skip, wpk_seq, k_cond, wpk_block, wpk_exit, wpk_ret, wpk_loop, k_ops, k_draw0, t_nil, t_cons, KT_eq, KD_eq, wpo_nil, k_cons, k_step, mt_some, mtk_some, KO_eq, KP_eq, K_normal, K_ret, K_exit, KB_normal, KB_ret, KB_exit, KL_normal, KL_ret, KL_exit, k_ret, k_normal, stepE, isCall, calleeE, opE, wantE, odE, odS, odL, odSL, fget, fput, initE, keepF, List.map_cons, List.map_nil, binE, intOp, strOp, shOp, unE, eqpE, eqnE, neqB, ressE, resE, packL, packE, flat1, fcells, fillE, setL, cellsOf_bind, cellsO_own, cellsO_ro, lenE_sl, lenE_nils, lenE_sl0, bound, rep, minE, maxE, List.getElem?_cons_zero, List.getElem?_cons_succ, get_lt, set_lt, get_len, get_len_add, set_len, set_len_add, List.append_assoc, List.cons_append, List.nil_append, -getElem?_pos, s6_11]
  refine WPc.go (next_ok t6 uk p) ?_
  rintro _ h7 ⟨g7, rfl⟩
  have f7 : nextF (tab3 a b y p) uk p = (b, 0) := by
    unfold nextF
    rw [if_pos (by omega), known_b (z := min (p / 4 + 1) 99) (by omega) (by omega) (by omega) (by omega)]
  rw [f7]
  have t7 := t6.gr g7
  simp [wpk_skip, wpk_seq, k_cond, wpk_block, wpk_exit, wpk_ret, wpk_loop, k_ops, k_draw0, t_nil, t_cons, KT_eq, KD_eq, wpo_nil, k_cons, k_step, mt_some, mtk_some, KO_eq, KP_eq, K_normal, K_ret, K_exit, KB_normal, KB_ret, KB_exit, KL_normal, KL_ret, KL_exit, k_ret, k_normal, stepE, isCall, calleeE, opE, wantE, odE, odS, odL, odSL, fget, fput, initE, keepF, List.map_cons, List.map_nil, binE, intOp, strOp, shOp, unE, eqpE, eqnE, neqB, ressE, resE, packL, packE, flat1, fcells, fillE, setL, cellsOf_bind, cellsO_own, cellsO_ro, lenE_sl, lenE_nils, lenE_sl0, bound, rep, minE, maxE, List.getElem?_cons_zero, List.getElem?_cons_succ, get_lt, set_lt, get_len, get_len_add, set_len, set_len_add, List.append_assoc, List.cons_append, List.nil_append, -getElem?_pos, s6_12, w6]
  refine WPc.go (next_ok t7 uk (p - 1)) ?_
  rintro _ h8 ⟨g8, rfl⟩
  have f8 : nextF (tab3 a b y p) uk (p - 1) = (a, 0) := by
    unfold nextF
    rw [if_pos (by omega), known_a (z := min ((p - 1) / 4 + 1) 99) (by omega) (by omega) (by omega) (by omega)]
  rw [f8]
  have t8 := t7.gr g8
  simp [wpk_skip, wpk_seq, k_cond, wpk_block, wpk_exit, wpk_ret, wpk_loop, k_ops, k_draw0, t_nil, t_cons, KT_eq, KD_eq, wpo_nil, k_cons, k_step, mt_some, mtk_some, KO_eq, KP_eq, K_normal, K_ret, K_exit, KB_normal, KB_ret, KB_exit, KL_normal, KL_ret, KL_exit, k_ret, k_normal, stepE, isCall, calleeE, opE, wantE, odE, odS, odL, odSL, fget, fput, initE, keepF, List.map_cons, List.map_nil, binE, intOp, strOp, shOp, unE, eqpE, eqnE, neqB, ressE, resE, packL, packE, flat1, fcells, fillE, setL, cellsOf_bind, cellsO_own, cellsO_ro, lenE_sl, lenE_nils, lenE_sl0, bound, rep, minE, maxE, List.getElem?_cons_zero, List.getElem?_cons_succ, get_lt, set_lt, get_len, get_len_add, set_len, set_len_add, List.append_assoc, List.cons_append, List.nil_append, -getElem?_pos, s6_13]
  refine WPc.go (next_ok t8 uk 399) ?_
  rintro _ h9 ⟨g9, rfl⟩
  have f9 : nextF (tab3 a b y p) uk 399 = (b, 0) := by
    unfold nextF
    rw [if_pos (by omega), known_b (z := min (399 / 4 + 1) 99) (by omega) (by omega) (by omega) (by omega)]
  rw [f9]
  have t9 := t8.gr g9
  simp [wpk_skip, wpk_seq, k_cond, wpk_block, wpk_exit, wpk_ret, wpk_loop, k_ops, k_draw0, t_nil, t_cons, KT_eq, KD_eq, wpo_nil, k_cons, k_step, mt_some, mtk_some, KO_eq, KP_eq, K_normal, K_ret, K_exit, KB_normal, KB_ret, KB_exit, KL_normal, KL_ret, KL_exit, k_ret, k_normal, stepE, isCall, calleeE, opE, wantE, odE, odS, odL, odSL, fget, fput, initE, keepF, List.map_cons, List.map_nil, binE, intOp, strOp, shOp, unE, eqpE, eqnE, neqB, ressE, resE, packL, packE, flat1, fcells, fillE, setL, cellsOf_bind, cellsO_own, cellsO_ro, lenE_sl, lenE_nils, lenE_sl0, bound, rep, minE, maxE, List.getElem?_cons_zero, List.getElem?_cons_succ, get_lt, set_lt, get_len, get_len_add, set_len, set_len_add, List.append_assoc, List.cons_append, List.nil_append, -getElem?_pos, s6_14]
  refine WPc.go (next_ok t9 ⟨#[100, 101]⟩ p) ?_
  rintro _ hA ⟨gA, rfl⟩
  have fA : nextF (tab3 a b y p) ⟨#[100, 101]⟩ p = (0, 7) := by
    unfold nextF
    have e0 : (uk.toList == (⟨#[100, 101]⟩ : ByteArray).toList) = false := by decide +kernel
    have : bestF ⟨#[100, 101]⟩ (min (p / 4 + 1) 99) p (tab3 a b y p) = none := by
      simp only [tab3, bestF, List.foldl_cons, List.foldl_nil, stepB, e0, true_or, if_true]
    rw [if_pos (by omega), this]
  rw [fA]
  have tA := t9.gr gA
  simp [wpk_skip, wpk_seq, k_cond, wpk_block, wpk_exit, wpk_ret, wpk_loop, k_ops, k_draw0, t_nil, t_cons, KT_eq, KD_eq, wpo_nil, k_cons, k_step, mt_some, mtk_some, KO_eq, KP_eq, K_normal, K_ret, K_exit, KB_normal, KB_ret, KB_exit, KL_normal, KL_ret, KL_exit, k_ret, k_normal, stepE, isCall, calleeE, opE, wantE, odE, odS, odL, odSL, fget, fput, initE, keepF, List.map_cons, List.map_nil, binE, intOp, strOp, shOp, unE, eqpE, eqnE, neqB, ressE, resE, packL, packE, flat1, fcells, fillE, setL, cellsOf_bind, cellsO_own, cellsO_ro, lenE_sl, lenE_nils, lenE_sl0, bound, rep, minE, maxE, List.getElem?_cons_zero, List.getElem?_cons_succ, get_lt, set_lt, get_len, get_len_add, set_len, set_len_add, List.append_assoc, List.cons_append, List.nil_append, -getElem?_pos, s6_15]
  refine WPc.go (next_ok tA uk (-1)) ?_
  rintro _ hB ⟨gB, rfl⟩
  have fB : nextF (tab3 a b y p) uk (-1) = (0, 1) := by
    unfold nextF
    rw [if_neg (by omega)]
  rw [fB]
  have oC : (hB ++ [LO.own 3 [.int .i64 a, .int .i64 a, .int .i64 b, .int .i64 b]])[hB.length]? = some (.own 3 (([a, a, b, b] : List Int).flatMap encI)) := get_len
  have hs := same_ok ((((((rW.gr g7).gr g8).gr g9).gr gA).gr gB).gr (Gr.self hB [LO.own 3 [.int .i64 a, .int .i64 a, .int .i64 b, .int .i64 b]])) (Rd.lit encI_len oC (p := 0)) (by simp)
  simp at hs
  simp [wpk_skip, wpk_seq, k_cond, wpk_block, wpk_exit, wpk_ret, wpk_loop, k_ops, k_draw0, t_nil, t_cons, KT_eq, KD_eq, wpo_nil, k_cons, k_step, mt_some, mtk_some, KO_eq, KP_eq, K_normal, K_ret, K_exit, KB_normal, KB_ret, KB_exit, KL_normal, KL_ret, KL_exit, k_ret, k_normal, stepE, isCall, calleeE, opE, wantE, odE, odS, odL, odSL, fget, fput, initE, keepF, List.map_cons, List.map_nil, binE, intOp, strOp, shOp, unE, eqpE, eqnE, neqB, ressE, resE, packL, packE, flat1, fcells, fillE, setL, cellsOf_bind, cellsO_own, cellsO_ro, lenE_sl, lenE_nils, lenE_sl0, bound, rep, minE, maxE, List.getElem?_cons_zero, List.getElem?_cons_succ, get_lt, set_lt, get_len, get_len_add, set_len, set_len_add, List.append_assoc, List.cons_append, List.nil_append, -getElem?_pos, s6_16, hs]
  refine WPc.go (mwakes_ok _) ?_
  rintro _ hz ⟨_, rfl⟩
  simp [wpk_skip, wpk_seq, k_cond, wpk_block, wpk_exit, wpk_ret, wpk_loop, k_ops, k_draw0, t_nil, t_cons, KT_eq, KD_eq, wpo_nil, k_cons, k_step, mt_some, mtk_some, KO_eq, KP_eq, K_normal, K_ret, K_exit, KB_normal, KB_ret, KB_exit, KL_normal, KL_ret, KL_exit, k_ret, k_normal, stepE, isCall, calleeE, opE, wantE, odE, odS, odL, odSL, fget, fput, initE, keepF, List.map_cons, List.map_nil, binE, intOp, strOp, shOp, unE, eqpE, eqnE, neqB, ressE, resE, packL, packE, flat1, fcells, fillE, setL, cellsOf_bind, cellsO_own, cellsO_ro, lenE_sl, lenE_nils, lenE_sl0, bound, rep, minE, maxE, List.getElem?_cons_zero, List.getElem?_cons_succ, get_lt, set_lt, get_len, get_len_add, set_len, set_len_add, List.append_assoc, List.cons_append, List.nil_append, -getElem?_pos, ]
  exact hΨ _ _ rfl
end Go.Proofs.Ytcimcccnhbbncaa.Ev.CE
