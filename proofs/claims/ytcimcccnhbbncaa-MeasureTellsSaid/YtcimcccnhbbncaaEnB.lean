/- Rates on the small machine: rows, clones, the example; numbers of a list. -/
import Derived.Test.YtcimcccnhbbncaaEnA
set_option linter.unusedSimpArgs false
set_option linter.unusedVariables false
namespace Go.Proofs.Ytcimcccnhbbncaa.Ev.CE
open Go

theorem clone50_ok {h : LH} {v : SV} {l : List Ro} (r : Rd h 63 4 encR v l) (hl : l.length < 1000) : WPc C 50 [.s v] h fun u h' => Gr h h' ∧ ∃ w, u = .s w ∧ Ow h.length h' 63 encR w l := by
  refine WPc.post fun Ψ hΨ => ?_
  refine WPc.intro (e := e50) rfl (by simp [e50]) ?_
  show WPk C b50 _ _ (KR [.tmp 2] _)
  have rl := r.len
  have re := (r.gr (Gr.self h [LO.own 63 []])).elems
  have key : v ≠ .nils → eqnE v .nils = some false → WPk C s50_2 [(0, some (.s v)), (4, some (.s (.bool false)))] h (KR [.tmp 2] Ψ) := by
    intro _ _
    by_cases e : l.length = 0
    · obtain rfl : l = [] := List.eq_nil_of_length_eq_zero e
      simp only [List.flatMap_nil] at re
      simp [wpk_skip, wpk_seq, k_cond, wpk_block, wpk_exit, wpk_ret, wpk_loop, k_ops, k_draw0, t_nil, t_cons, KT_eq, KD_eq, wpo_nil, k_cons, k_step, mt_some, mtk_some, KO_eq, KP_eq, K_normal, K_ret, K_exit, KB_normal, KB_ret, KB_exit, KL_normal, KL_ret, KL_exit, k_ret, k_normal, stepE, isCall, calleeE, opE, wantE, odE, odS, odL, odSL, fget, fput, initE, keepF, List.map_cons, List.map_nil, binE, intOp, strOp, shOp, unE, eqpE, eqnE, neqB, ressE, resE, packL, packE, flat1, fcells, fillE, setL, cellsOf_bind, cellsO_own, cellsO_ro, lenE_sl, lenE_nils, lenE_sl0, bound, rep, minE, maxE, List.getElem?_cons_zero, List.getElem?_cons_succ, get_lt, set_lt, get_len, get_len_add, set_len, set_len_add, List.append_assoc, List.cons_append, List.nil_append, -getElem?_pos, s50_2, rl, re, appE_zero_sl]
      exact hΨ _ _ ⟨Gr.self _ _, _, rfl, .inr ⟨h.length, Nat.le_refl _, rfl, get_len⟩⟩
    · have hA := appE_own (h := h ++ [LO.own 63 []]) (t := 63) (z := 4) (y := 40) (i := h.length) (p := 0) (o := 0) (m := 0) (n := l.length) (new := l.flatMap encR) get_len e (by simp) (by omega)
      simp at hA
      simp [wpk_skip, wpk_seq, k_cond, wpk_block, wpk_exit, wpk_ret, wpk_loop, k_ops, k_draw0, t_nil, t_cons, KT_eq, KD_eq, wpo_nil, k_cons, k_step, mt_some, mtk_some, KO_eq, KP_eq, K_normal, K_ret, K_exit, KB_normal, KB_ret, KB_exit, KL_normal, KL_ret, KL_exit, k_ret, k_normal, stepE, isCall, calleeE, opE, wantE, odE, odS, odL, odSL, fget, fput, initE, keepF, List.map_cons, List.map_nil, binE, intOp, strOp, shOp, unE, eqpE, eqnE, neqB, ressE, resE, packL, packE, flat1, fcells, fillE, setL, cellsOf_bind, cellsO_own, cellsO_ro, lenE_sl, lenE_nils, lenE_sl0, bound, rep, minE, maxE, List.getElem?_cons_zero, List.getElem?_cons_succ, get_lt, set_lt, get_len, get_len_add, set_len, set_len_add, List.append_assoc, List.cons_append, List.nil_append, -getElem?_pos, s50_2, rl, re, hA]
      exact hΨ _ _ ⟨Gr.self _ _, _, rfl, .inr ⟨h.length + 1, by omega, by simp, by rw [get_len_add]; rfl⟩⟩
  rcases r with ⟨rfl, rfl | ⟨i, p, o, rfl⟩⟩ | ⟨i, p, o, ob, vs, rfl, _⟩
  · simp [wpk_skip, wpk_seq, k_cond, wpk_block, wpk_exit, wpk_ret, wpk_loop, k_ops, k_draw0, t_nil, t_cons, KT_eq, KD_eq, wpo_nil, k_cons, k_step, mt_some, mtk_some, KO_eq, KP_eq, K_normal, K_ret, K_exit, KB_normal, KB_ret, KB_exit, KL_normal, KL_ret, KL_exit, k_ret, k_normal, stepE, isCall, calleeE, opE, wantE, odE, odS, odL, odSL, fget, fput, initE, keepF, List.map_cons, List.map_nil, binE, intOp, strOp, shOp, unE, eqpE, eqnE, neqB, ressE, resE, packL, packE, flat1, fcells, fillE, setL, cellsOf_bind, cellsO_own, cellsO_ro, lenE_sl, lenE_nils, lenE_sl0, bound, rep, minE, maxE, List.getElem?_cons_zero, List.getElem?_cons_succ, get_lt, set_lt, get_len, get_len_add, set_len, set_len_add, List.append_assoc, List.cons_append, List.nil_append, -getElem?_pos, b50, s50_2, s50_1]
    exact hΨ _ _ ⟨Gr.refl _, _, rfl, Ow.nil _ _⟩
  · simp [wpk_skip, wpk_seq, k_cond, wpk_block, wpk_exit, wpk_ret, wpk_loop, k_ops, k_draw0, t_nil, t_cons, KT_eq, KD_eq, wpo_nil, k_cons, k_step, mt_some, mtk_some, KO_eq, KP_eq, K_normal, K_ret, K_exit, KB_normal, KB_ret, KB_exit, KL_normal, KL_ret, KL_exit, k_ret, k_normal, stepE, isCall, calleeE, opE, wantE, odE, odS, odL, odSL, fget, fput, initE, keepF, List.map_cons, List.map_nil, binE, intOp, strOp, shOp, unE, eqpE, eqnE, neqB, ressE, resE, packL, packE, flat1, fcells, fillE, setL, cellsOf_bind, cellsO_own, cellsO_ro, lenE_sl, lenE_nils, lenE_sl0, bound, rep, minE, maxE, List.getElem?_cons_zero, List.getElem?_cons_succ, get_lt, set_lt, get_len, get_len_add, set_len, set_len_add, List.append_assoc, List.cons_append, List.nil_append, -getElem?_pos, b50, s50_1]
    exact key (by simp) rfl
  · simp [wpk_skip, wpk_seq, k_cond, wpk_block, wpk_exit, wpk_ret, wpk_loop, k_ops, k_draw0, t_nil, t_cons, KT_eq, KD_eq, wpo_nil, k_cons, k_step, mt_some, mtk_some, KO_eq, KP_eq, K_normal, K_ret, K_exit, KB_normal, KB_ret, KB_exit, KL_normal, KL_ret, KL_exit, k_ret, k_normal, stepE, isCall, calleeE, opE, wantE, odE, odS, odL, odSL, fget, fput, initE, keepF, List.map_cons, List.map_nil, binE, intOp, strOp, shOp, unE, eqpE, eqnE, neqB, ressE, resE, packL, packE, flat1, fcells, fillE, setL, cellsOf_bind, cellsO_own, cellsO_ro, lenE_sl, lenE_nils, lenE_sl0, bound, rep, minE, maxE, List.getElem?_cons_zero, List.getElem?_cons_succ, get_lt, set_lt, get_len, get_len_add, set_len, set_len_add, List.append_assoc, List.cons_append, List.nil_append, -getElem?_pos, b50, s50_1]
    exact key (by simp) rfl
theorem rows_ok {h : LH} {i : Nat} {v : SV} {l : List Ro} (hi : h[i]? = some (.own 79 [v])) (r : Rd h 63 4 encR v l) (hl : l.length < 1000) : WPc C 32 [.s (.ptr i 0)] h fun u h' => Gr h h' ∧ ∃ w, u = .s w ∧ Ow h.length h' 63 encR w l := by
  refine WPc.post fun Ψ hΨ => ?_
  refine WPc.intro (e := e32) rfl (by simp [e32]) ?_
  show WPk C b32 _ _ (KR [.tmp 2] _)
  simp [wpk_skip, wpk_seq, k_cond, wpk_block, wpk_exit, wpk_ret, wpk_loop, k_ops, k_draw0, t_nil, t_cons, KT_eq, KD_eq, wpo_nil, k_cons, k_step, mt_some, mtk_some, KO_eq, KP_eq, K_normal, K_ret, K_exit, KB_normal, KB_ret, KB_exit, KL_normal, KL_ret, KL_exit, k_ret, k_normal, stepE, isCall, calleeE, opE, wantE, odE, odS, odL, odSL, fget, fput, initE, keepF, List.map_cons, List.map_nil, binE, intOp, strOp, shOp, unE, eqpE, eqnE, neqB, ressE, resE, packL, packE, flat1, fcells, fillE, setL, cellsOf_bind, cellsO_own, cellsO_ro, lenE_sl, lenE_nils, lenE_sl0, bound, rep, minE, maxE, List.getElem?_cons_zero, List.getElem?_cons_succ, get_lt, set_lt, get_len, get_len_add, set_len, set_len_add, List.append_assoc, List.cons_append, List.nil_append, -getElem?_pos, b32, s32_1, hi]
  refine WPc.go (clone50_ok r hl) ?_
  rintro _ h1 ⟨g1, w, rfl, ow⟩
  simp [wpk_skip, wpk_seq, k_cond, wpk_block, wpk_exit, wpk_ret, wpk_loop, k_ops, k_draw0, t_nil, t_cons, KT_eq, KD_eq, wpo_nil, k_cons, k_step, mt_some, mtk_some, KO_eq, KP_eq, K_normal, K_ret, K_exit, KB_normal, KB_ret, KB_exit, KL_normal, KL_ret, KL_exit, k_ret, k_normal, stepE, isCall, calleeE, opE, wantE, odE, odS, odL, odSL, fget, fput, initE, keepF, List.map_cons, List.map_nil, binE, intOp, strOp, shOp, unE, eqpE, eqnE, neqB, ressE, resE, packL, packE, flat1, fcells, fillE, setL, cellsOf_bind, cellsO_own, cellsO_ro, lenE_sl, lenE_nils, lenE_sl0, bound, rep, minE, maxE, List.getElem?_cons_zero, List.getElem?_cons_succ, get_lt, set_lt, get_len, get_len_add, set_len, set_len_add, List.append_assoc, List.cons_append, List.nil_append, -getElem?_pos, ]
  exact hΨ _ _ ⟨g1, w, rfl, ow⟩
theorem Tb.rate {b : Nat} {h : LH} {i : Nat} {v : SV} {l : List Ro} (t : Tb b h i v l) (j : ByteArray) (y p : Int) :
    WPc C 33 [.s (.ptr i 0), .s (.str j), .s (.int .i64 y), .s (.int .i64 p)] h fun u h' => Gr h h' ∧ u = .tup [.s (.int .i64 (rateOf (bestF j y p l))), .s (.bool (bestF j y p l).isSome)] :=
  rate_ok t.obj (t.rows.rd encR_len) (by have := t.len; omega) j y p
theorem Tb.rs {b : Nat} {h : LH} {i : Nat} {v : SV} {l : List Ro} (t : Tb b h i v l) : WPc C 32 [.s (.ptr i 0)] h fun u h' => Gr h h' ∧ ∃ w, u = .s w ∧ Ow h.length h' 63 encR w l :=
  rows_ok t.obj (t.rows.rd encR_len) (by have := t.len; omega)

theorem wakes_ok (h : LH) : WPc C 34 [] h fun u h' => Gr h h' ∧ u = .s (.bool true) := by
  refine WPc.post fun Ψ hΨ => ?_
  refine WPc.intro (e := e34) rfl (by simp [e34]) ?_
  show WPk C b34 _ _ (KR [.tmp 0] _)
  simp [wpk_skip, wpk_seq, k_cond, wpk_block, wpk_exit, wpk_ret, wpk_loop, k_ops, k_draw0, t_nil, t_cons, KT_eq, KD_eq, wpo_nil, k_cons, k_step, mt_some, mtk_some, KO_eq, KP_eq, K_normal, K_ret, K_exit, KB_normal, KB_ret, KB_exit, KL_normal, KL_ret, KL_exit, k_ret, k_normal, stepE, isCall, calleeE, opE, wantE, odE, odS, odL, odSL, fget, fput, initE, keepF, List.map_cons, List.map_nil, binE, intOp, strOp, shOp, unE, eqpE, eqnE, neqB, ressE, resE, packL, packE, flat1, fcells, fillE, setL, cellsOf_bind, cellsO_own, cellsO_ro, lenE_sl, lenE_nils, lenE_sl0, bound, rep, minE, maxE, List.getElem?_cons_zero, List.getElem?_cons_succ, get_lt, set_lt, get_len, get_len_add, set_len, set_len_add, List.append_assoc, List.cons_append, List.nil_append, -getElem?_pos, b34, s34_4, s34_3, s34_2, s34_1, new_ok]
  have t0 := new_tb h
  refine WPc.go (t0.rate ⟨#[117, 107]⟩ 5 5) ?_
  rintro _ h1 ⟨g1, rfl⟩
  have g01 := (Gr.self h _).trans g1
  have t1 := t0.gr g1
  simp [wpk_skip, wpk_seq, k_cond, wpk_block, wpk_exit, wpk_ret, wpk_loop, k_ops, k_draw0, t_nil, t_cons, KT_eq, KD_eq, wpo_nil, k_cons, k_step, mt_some, mtk_some, KO_eq, KP_eq, K_normal, K_ret, K_exit, KB_normal, KB_ret, KB_exit, KL_normal, KL_ret, KL_exit, k_ret, k_normal, stepE, isCall, calleeE, opE, wantE, odE, odS, odL, odSL, fget, fput, initE, keepF, List.map_cons, List.map_nil, binE, intOp, strOp, shOp, unE, eqpE, eqnE, neqB, ressE, resE, packL, packE, flat1, fcells, fillE, setL, cellsOf_bind, cellsO_own, cellsO_ro, lenE_sl, lenE_nils, lenE_sl0, bound, rep, minE, maxE, List.getElem?_cons_zero, List.getElem?_cons_succ, get_lt, set_lt, get_len, get_len_add, set_len, set_len_add, List.append_assoc, List.cons_append, List.nil_append, -getElem?_pos, bestF]
  refine WPc.go (add_ok t1 ⟨#[117, 107]⟩ 2 250000 3) ?_
  rintro _ h2 ⟨c2, rfl, v2, t2⟩
  have g02 := c2.base t1 g01
  have e : addR [] ⟨#[117, 107]⟩ 2 250000 3 = (0, [⟨⟨#[117, 107]⟩, 2, 250000, 3⟩]) := by
    unfold addR
    rw [if_neg (by decide +kernel)]; rfl
  rw [e] at t2 ⊢
  simp [wpk_skip, wpk_seq, k_cond, wpk_block, wpk_exit, wpk_ret, wpk_loop, k_ops, k_draw0, t_nil, t_cons, KT_eq, KD_eq, wpo_nil, k_cons, k_step, mt_some, mtk_some, KO_eq, KP_eq, K_normal, K_ret, K_exit, KB_normal, KB_ret, KB_exit, KL_normal, KL_ret, KL_exit, k_ret, k_normal, stepE, isCall, calleeE, opE, wantE, odE, odS, odL, odSL, fget, fput, initE, keepF, List.map_cons, List.map_nil, binE, intOp, strOp, shOp, unE, eqpE, eqnE, neqB, ressE, resE, packL, packE, flat1, fcells, fillE, setL, cellsOf_bind, cellsO_own, cellsO_ro, lenE_sl, lenE_nils, lenE_sl0, bound, rep, minE, maxE, List.getElem?_cons_zero, List.getElem?_cons_succ, get_lt, set_lt, get_len, get_len_add, set_len, set_len_add, List.append_assoc, List.cons_append, List.nil_append, -getElem?_pos, ]
  refine WPc.go t2.rs ?_
  rintro _ h3 ⟨g3, w, rfl, ow⟩
  simp [wpk_skip, wpk_seq, k_cond, wpk_block, wpk_exit, wpk_ret, wpk_loop, k_ops, k_draw0, t_nil, t_cons, KT_eq, KD_eq, wpo_nil, k_cons, k_step, mt_some, mtk_some, KO_eq, KP_eq, K_normal, K_ret, K_exit, KB_normal, KB_ret, KB_exit, KL_normal, KL_ret, KL_exit, k_ret, k_normal, stepE, isCall, calleeE, opE, wantE, odE, odS, odL, odSL, fget, fput, initE, keepF, List.map_cons, List.map_nil, binE, intOp, strOp, shOp, unE, eqpE, eqnE, neqB, ressE, resE, packL, packE, flat1, fcells, fillE, setL, cellsOf_bind, cellsO_own, cellsO_ro, lenE_sl, lenE_nils, lenE_sl0, bound, rep, minE, maxE, List.getElem?_cons_zero, List.getElem?_cons_succ, get_lt, set_lt, get_len, get_len_add, set_len, set_len_add, List.append_assoc, List.cons_append, List.nil_append, -getElem?_pos, ow.len]
  exact hΨ _ _ ⟨g02.trans g3, rfl⟩
end Go.Proofs.Ytcimcccnhbbncaa.Ev.CE
