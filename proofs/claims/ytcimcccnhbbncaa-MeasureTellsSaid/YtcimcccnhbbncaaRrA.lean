/- A rate of the document's table on the small machine. -/
import Derived.Test.YtcimcccnhbbncaaRefT
set_option linter.unusedSimpArgs false
set_option linter.unusedVariables false
namespace Go.Proofs.Ytcimcccnhbbncaa.Ev.CE
open Go

def idxI : Option Nat → Int
  | none => -1
  | some i => i

set_option maxRecDepth 20000 in
set_option maxHeartbeats 4000000 in
theorem rrate_ok {h : LH} {i : Nat} {v : SV} {l : List Ro} (hi : h[i]? = some (.own 49 [v])) (r : Rd h 73 4 encR v l) (hl : l.length < 1000) (j : ByteArray) (y p : Int) :
    WPc C 36 [.s (.ptr i 0), .s (.str j), .s (.int .i64 y), .s (.int .i64 p)] h fun u h' => Gr h h' ∧ u = .tup [.s (.int .i64 (rateOf (bestF j y p l))), .s (.bool (bestF j y p l).isSome)] := by
  refine WPc.post fun Ψ hΨ => ?_
  refine WPc.intro (e := e36) rfl (by simp [e36]) ?_
  show WPk C b36 _ _ (KR [.tmp 8, .tmp 9] _)
  have li := lt_of_some hi
  simp [wpk_skip, wpk_seq, k_cond, wpk_block, wpk_exit, wpk_ret, wpk_loop, k_ops, k_draw0, t_nil, t_cons, KT_eq, KD_eq, wpo_nil, k_cons, k_step, mt_some, mtk_some, KO_eq, KP_eq, K_normal, K_ret, K_exit, KB_normal, KB_ret, KB_exit, KL_normal, KL_ret, KL_exit, k_ret, k_normal, stepE, isCall, calleeE, opE, wantE, odE, odS, odL, odSL, fget, fput, initE, keepF, List.map_cons, List.map_nil, binE, intOp, strOp, shOp, unE, eqpE, eqnE, neqB, ressE, resE, packL, packE, flat1, fcells, fillE, setL, cellsOf_bind, cellsO_own, cellsO_ro, lenE_sl, lenE_nils, lenE_sl0, bound, rep, minE, maxE, List.getElem?_cons_zero, List.getElem?_cons_succ, get_lt, set_lt, get_len, get_len_add, set_len, set_len_add, List.append_assoc, List.cons_append, List.nil_append, -getElem?_pos, b36, s36_1, s36_2, hi, li, r.len]
  refine WPl.inv2 (fun n fr h' => Gr h h' ∧ ∃ (k : Nat) (s : Option Nat), k ≤ l.length ∧ n = l.length - k ∧ (∀ a, s = some a → a < k) ∧ (l.drop k).foldl (stepB j y p) (s.bind (l[·]?)) = bestF j y p l ∧
    fr = [(0, some (.s (.ptr i 0))), (1, some (.s (.str j))), (2, some (.s (.int .i64 y))), (3, some (.s (.int .i64 p))), (10, some (.s (.int .i64 (idxI s)))), (16, some (.s v)), (17, some (.s (.int .i64 l.length))), (18, some (.s (.int .i64 k)))]) ?_ _ _ _ ⟨Gr.refl _, 0, none, Nat.zero_le _, rfl, by simp, rfl, rfl⟩
  rintro I hI n fr h' ⟨gr, k, s, hk, rfl, hs, he, rfl⟩
  refine ⟨by simp [keepF, fget], ?_⟩
  have hi' := gr.get hi
  have li' := lt_of_some hi'
  by_cases hlt : k < l.length
  · obtain ⟨j0, p0, q0, ob0, vs0, rfl, c1, c2, c3, c4, -⟩ := (r.gr gr).at encR_len hlt
    have c5 := lt_of_some c1
    rw [List.drop_eq_getElem_cons hlt] at he
    rw [List.foldl_cons] at he
    have w3 : IntKind.i64.wrap ((k : Int) + 1) = ((k + 1 : Nat) : Int) := wrap_small (by omega) (by omega)
    have hgk : l[k]? = some l[k] := List.getElem?_eq_getElem hlt
    simp only [encR] at c4
    generalize l[k] = x at *
    have skip : stepB j y p (s.bind (l[·]?)) x = s.bind (l[·]?) → ∃ m, m < l.length - k ∧ I m [(0, some (.s (.ptr i 0))), (1, some (.s (.str j))), (2, some (.s (.int .i64 y))), (3, some (.s (.int .i64 p))), (10, some (.s (.int .i64 (idxI s)))), (16, some (.s (.sl j0 p0 q0 l.length))), (17, some (.s (.int .i64 l.length))), (18, some (.s (.int .i64 ((k : Int) + 1))))] (h' ++ [LO.own 73 [.str x.j, .int .i64 x.y, .int .i64 x.r, .int .i64 x.p]]) := by
      intro e
      rw [e] at he
      exact ⟨_, by omega, hI _ _ _ ⟨gr.app _, k + 1, s, hlt, rfl, fun a ha => by have := hs a ha; omega, he, rfl⟩⟩
    have take : stepB j y p (s.bind (l[·]?)) x = some x → ∃ m, m < l.length - k ∧ I m [(0, some (.s (.ptr i 0))), (1, some (.s (.str j))), (2, some (.s (.int .i64 y))), (3, some (.s (.int .i64 p))), (10, some (.s (.int .i64 k))), (16, some (.s (.sl j0 p0 q0 l.length))), (17, some (.s (.int .i64 l.length))), (18, some (.s (.int .i64 ((k : Int) + 1))))] (h' ++ [LO.own 73 [.str x.j, .int .i64 x.y, .int .i64 x.r, .int .i64 x.p]]) := by
      intro e
      rw [e] at he
      exact ⟨_, by omega, hI _ _ _ ⟨gr.app _, k + 1, some k, hlt, rfl, fun a ha => by cases ha; omega, by rw [show (some k).bind (l[·]?) = some x from hgk]; exact he, rfl⟩⟩
    cases e1 : x.j.toList == j.toList with
    | false =>
      have := skip (by unfold stepB; rw [if_pos (.inl e1)])
      have e1' : (x.j.toList != j.toList) = true := by simpa using e1
      have e1n : ¬ x.j.toList = j.toList := by simpa using e1
      simp [wpk_skip, wpk_seq, k_cond, wpk_block, wpk_exit, wpk_ret, wpk_loop, k_ops, k_draw0, t_nil, t_cons, KT_eq, KD_eq, wpo_nil, k_cons, k_step, mt_some, mtk_some, KO_eq, KP_eq, K_normal, K_ret, K_exit, KB_normal, KB_ret, KB_exit, KL_normal, KL_ret, KL_exit, k_ret, k_normal, stepE, isCall, calleeE, opE, wantE, odE, odS, odL, odSL, fget, fput, initE, keepF, List.map_cons, List.map_nil, binE, intOp, strOp, shOp, unE, eqpE, eqnE, neqB, ressE, resE, packL, packE, flat1, fcells, fillE, setL, cellsOf_bind, cellsO_own, cellsO_ro, lenE_sl, lenE_nils, lenE_sl0, bound, rep, minE, maxE, List.getElem?_cons_zero, List.getElem?_cons_succ, get_lt, set_lt, get_len, get_len_add, set_len, set_len_add, List.append_assoc, List.cons_append, List.nil_append, -getElem?_pos, l36_0_2, l36_0_1, l36_0, hlt, c1, c2, c3, c4, c5, e1, e1', e1n, w3]
      exact this
    | true =>
    have e1' : (x.j.toList != j.toList) = false := by simpa using e1
    have e1n : x.j.toList = j.toList := by simpa using e1
    by_cases e3 : x.p > p
    · have := skip (by unfold stepB; rw [if_pos (.inr (.inr e3))])
      simp [wpk_skip, wpk_seq, k_cond, wpk_block, wpk_exit, wpk_ret, wpk_loop, k_ops, k_draw0, t_nil, t_cons, KT_eq, KD_eq, wpo_nil, k_cons, k_step, mt_some, mtk_some, KO_eq, KP_eq, K_normal, K_ret, K_exit, KB_normal, KB_ret, KB_exit, KL_normal, KL_ret, KL_exit, k_ret, k_normal, stepE, isCall, calleeE, opE, wantE, odE, odS, odL, odSL, fget, fput, initE, keepF, List.map_cons, List.map_nil, binE, intOp, strOp, shOp, unE, eqpE, eqnE, neqB, ressE, resE, packL, packE, flat1, fcells, fillE, setL, cellsOf_bind, cellsO_own, cellsO_ro, lenE_sl, lenE_nils, lenE_sl0, bound, rep, minE, maxE, List.getElem?_cons_zero, List.getElem?_cons_succ, get_lt, set_lt, get_len, get_len_add, set_len, set_len_add, List.append_assoc, List.cons_append, List.nil_append, -getElem?_pos, l36_0_2, l36_0_1, l36_0, hlt, c1, c2, c3, c4, c5, e1, e1', e1n, e3, w3]
      exact this
    by_cases e2 : x.y > y
    · have := skip (by unfold stepB; rw [if_pos (.inr (.inl e2))])
      simp [wpk_skip, wpk_seq, k_cond, wpk_block, wpk_exit, wpk_ret, wpk_loop, k_ops, k_draw0, t_nil, t_cons, KT_eq, KD_eq, wpo_nil, k_cons, k_step, mt_some, mtk_some, KO_eq, KP_eq, K_normal, K_ret, K_exit, KB_normal, KB_ret, KB_exit, KL_normal, KL_ret, KL_exit, k_ret, k_normal, stepE, isCall, calleeE, opE, wantE, odE, odS, odL, odSL, fget, fput, initE, keepF, List.map_cons, List.map_nil, binE, intOp, strOp, shOp, unE, eqpE, eqnE, neqB, ressE, resE, packL, packE, flat1, fcells, fillE, setL, cellsOf_bind, cellsO_own, cellsO_ro, lenE_sl, lenE_nils, lenE_sl0, bound, rep, minE, maxE, List.getElem?_cons_zero, List.getElem?_cons_succ, get_lt, set_lt, get_len, get_len_add, set_len, set_len_add, List.append_assoc, List.cons_append, List.nil_append, -getElem?_pos, l36_0_2, l36_0_1, l36_0, hlt, c1, c2, c3, c4, c5, e1, e1', e1n, e2, e3, w3]
      exact this
    unfold stepB at skip take
    rw [if_neg (by rw [e1]; simp; omega)] at skip take
    cases s with
    | none =>
      have := take rfl
      simp [wpk_skip, wpk_seq, k_cond, wpk_block, wpk_exit, wpk_ret, wpk_loop, k_ops, k_draw0, t_nil, t_cons, KT_eq, KD_eq, wpo_nil, k_cons, k_step, mt_some, mtk_some, KO_eq, KP_eq, K_normal, K_ret, K_exit, KB_normal, KB_ret, KB_exit, KL_normal, KL_ret, KL_exit, k_ret, k_normal, stepE, isCall, calleeE, opE, wantE, odE, odS, odL, odSL, fget, fput, initE, keepF, List.map_cons, List.map_nil, binE, intOp, strOp, shOp, unE, eqpE, eqnE, neqB, ressE, resE, packL, packE, flat1, fcells, fillE, setL, cellsOf_bind, cellsO_own, cellsO_ro, lenE_sl, lenE_nils, lenE_sl0, bound, rep, minE, maxE, List.getElem?_cons_zero, List.getElem?_cons_succ, get_lt, set_lt, get_len, get_len_add, set_len, set_len_add, List.append_assoc, List.cons_append, List.nil_append, -getElem?_pos, l36_0_2, l36_0_1, l36_0, hlt, c1, c2, c3, c4, c5, e1, e1', e1n, e2, e3, idxI, w3]
      exact this
    | some a =>
      have ak := hs a rfl
      have al : a < l.length := by omega
      obtain ⟨_, _, _, ob1, vs1, ej, d1, d2, -, -, d4⟩ := (r.gr gr).at encR_len al
      simp only [SV.sl.injEq] at ej
      obtain ⟨rfl, rfl, rfl, -⟩ := ej
      obtain rfl := Option.some.inj (c1.symm.trans d1)
      obtain rfl := (Prod.mk.inj (Option.some.inj (c2.symm.trans d2))).2
      have f1 : vs0[(q0 + a) * 4 + 1]? = some (.int .i64 l[a].y) := d4 1 (by omega)
      have f3 : vs0[(q0 + a) * 4 + 3]? = some (.int .i64 l[a].p) := d4 3 (by omega)
      have hga : (some a).bind (l[·]?) = some l[a] := List.getElem?_eq_getElem al
      rw [hga] at skip take
      generalize l[a] = b at *
      simp only at skip take
      have a0 : ¬ (a : Int) < 0 := by omega
      have a0' : (0 : Int) ≤ a := by omega
      by_cases e4 : x.y > b.y
      · have := take (by rw [if_pos (.inl e4)])
        simp [wpk_skip, wpk_seq, k_cond, wpk_block, wpk_exit, wpk_ret, wpk_loop, k_ops, k_draw0, t_nil, t_cons, KT_eq, KD_eq, wpo_nil, k_cons, k_step, mt_some, mtk_some, KO_eq, KP_eq, K_normal, K_ret, K_exit, KB_normal, KB_ret, KB_exit, KL_normal, KL_ret, KL_exit, k_ret, k_normal, stepE, isCall, calleeE, opE, wantE, odE, odS, odL, odSL, fget, fput, initE, keepF, List.map_cons, List.map_nil, binE, intOp, strOp, shOp, unE, eqpE, eqnE, neqB, ressE, resE, packL, packE, flat1, fcells, fillE, setL, cellsOf_bind, cellsO_own, cellsO_ro, lenE_sl, lenE_nils, lenE_sl0, bound, rep, minE, maxE, List.getElem?_cons_zero, List.getElem?_cons_succ, get_lt, set_lt, get_len, get_len_add, set_len, set_len_add, List.append_assoc, List.cons_append, List.nil_append, -getElem?_pos, l36_0_2, l36_0_1, l36_0, hlt, al, c1, c2, c3, c4, c5, hi', li', f1, f3, e1, e1', e1n, e2, e3, e4, idxI, a0, a0', w3]
        exact this
      · cases e5 : x.y == b.y with
        | false =>
          have e5' : ¬ x.y = b.y := by simpa using e5
          have := skip (by rw [if_neg (by omega)])
          simp [wpk_skip, wpk_seq, k_cond, wpk_block, wpk_exit, wpk_ret, wpk_loop, k_ops, k_draw0, t_nil, t_cons, KT_eq, KD_eq, wpo_nil, k_cons, k_step, mt_some, mtk_some, KO_eq, KP_eq, K_normal, K_ret, K_exit, KB_normal, KB_ret, KB_exit, KL_normal, KL_ret, KL_exit, k_ret, k_normal, stepE, isCall, calleeE, opE, wantE, odE, odS, odL, odSL, fget, fput, initE, keepF, List.map_cons, List.map_nil, binE, intOp, strOp, shOp, unE, eqpE, eqnE, neqB, ressE, resE, packL, packE, flat1, fcells, fillE, setL, cellsOf_bind, cellsO_own, cellsO_ro, lenE_sl, lenE_nils, lenE_sl0, bound, rep, minE, maxE, List.getElem?_cons_zero, List.getElem?_cons_succ, get_lt, set_lt, get_len, get_len_add, set_len, set_len_add, List.append_assoc, List.cons_append, List.nil_append, -getElem?_pos, l36_0_2, l36_0_1, l36_0, hlt, al, c1, c2, c3, c4, c5, hi', li', f1, f3, e1, e1', e1n, e2, e3, e4, e5, idxI, a0, a0', w3]
          exact this
        | true =>
          have e5' : x.y = b.y := by simpa using e5
          by_cases e6 : x.p > b.p
          · have := take (by rw [if_pos (by omega)])
            simp [wpk_skip, wpk_seq, k_cond, wpk_block, wpk_exit, wpk_ret, wpk_loop, k_ops, k_draw0, t_nil, t_cons, KT_eq, KD_eq, wpo_nil, k_cons, k_step, mt_some, mtk_some, KO_eq, KP_eq, K_normal, K_ret, K_exit, KB_normal, KB_ret, KB_exit, KL_normal, KL_ret, KL_exit, k_ret, k_normal, stepE, isCall, calleeE, opE, wantE, odE, odS, odL, odSL, fget, fput, initE, keepF, List.map_cons, List.map_nil, binE, intOp, strOp, shOp, unE, eqpE, eqnE, neqB, ressE, resE, packL, packE, flat1, fcells, fillE, setL, cellsOf_bind, cellsO_own, cellsO_ro, lenE_sl, lenE_nils, lenE_sl0, bound, rep, minE, maxE, List.getElem?_cons_zero, List.getElem?_cons_succ, get_lt, set_lt, get_len, get_len_add, set_len, set_len_add, List.append_assoc, List.cons_append, List.nil_append, -getElem?_pos, l36_0_2, l36_0_1, l36_0, hlt, al, c1, c2, c3, c4, c5, hi', li', f1, f3, e1, e1', e1n, e2, e3, e4, e5, e6, idxI, a0, a0', w3]
            exact this
          · have := skip (by rw [if_neg (by omega)])
            simp [wpk_skip, wpk_seq, k_cond, wpk_block, wpk_exit, wpk_ret, wpk_loop, k_ops, k_draw0, t_nil, t_cons, KT_eq, KD_eq, wpo_nil, k_cons, k_step, mt_some, mtk_some, KO_eq, KP_eq, K_normal, K_ret, K_exit, KB_normal, KB_ret, KB_exit, KL_normal, KL_ret, KL_exit, k_ret, k_normal, stepE, isCall, calleeE, opE, wantE, odE, odS, odL, odSL, fget, fput, initE, keepF, List.map_cons, List.map_nil, binE, intOp, strOp, shOp, unE, eqpE, eqnE, neqB, ressE, resE, packL, packE, flat1, fcells, fillE, setL, cellsOf_bind, cellsO_own, cellsO_ro, lenE_sl, lenE_nils, lenE_sl0, bound, rep, minE, maxE, List.getElem?_cons_zero, List.getElem?_cons_succ, get_lt, set_lt, get_len, get_len_add, set_len, set_len_add, List.append_assoc, List.cons_append, List.nil_append, -getElem?_pos, l36_0_2, l36_0_1, l36_0, hlt, al, c1, c2, c3, c4, c5, hi', li', f1, f3, e1, e1', e1n, e2, e3, e4, e5, e6, idxI, a0, a0', w3]
            exact this
  · obtain rfl : k = l.length := by omega
    rw [List.drop_eq_nil_of_le (Nat.le_refl _)] at he
    have he' : s.bind (l[·]?) = bestF j y p l := he
    cases s with
    | none =>
      have hb : bestF j y p l = none := he'.symm
      rw [hb] at hΨ
      simp [wpk_skip, wpk_seq, k_cond, wpk_block, wpk_exit, wpk_ret, wpk_loop, k_ops, k_draw0, t_nil, t_cons, KT_eq, KD_eq, wpo_nil, k_cons, k_step, mt_some, mtk_some, KO_eq, KP_eq, K_normal, K_ret, K_exit, KB_normal, KB_ret, KB_exit, KL_normal, KL_ret, KL_exit, k_ret, k_normal, stepE, isCall, calleeE, opE, wantE, odE, odS, odL, odSL, fget, fput, initE, keepF, List.map_cons, List.map_nil, binE, intOp, strOp, shOp, unE, eqpE, eqnE, neqB, ressE, resE, packL, packE, flat1, fcells, fillE, setL, cellsOf_bind, cellsO_own, cellsO_ro, lenE_sl, lenE_nils, lenE_sl0, bound, rep, minE, maxE, List.getElem?_cons_zero, List.getElem?_cons_succ, get_lt, set_lt, get_len, get_len_add, set_len, set_len_add, List.append_assoc, List.cons_append, List.nil_append, -getElem?_pos, l36_0_2, l36_0_1, l36_0, hlt, s36_3, s36_4, idxI]
      exact hΨ _ _ ⟨gr, rfl⟩
    | some a =>
      have al := hs a rfl
      obtain ⟨j0, p0, q0, ob0, vs0, rfl, c1, c2, c3, -, d4⟩ := (r.gr gr).at encR_len al
      have f2 : vs0[(q0 + a) * 4 + 2]? = some (.int .i64 l[a].r) := d4 2 (by omega)
      have hga : (some a).bind (l[·]?) = some l[a] := List.getElem?_eq_getElem al
      rw [hga] at he'
      rw [← he'] at hΨ
      have a0 : ¬ (a : Int) < 0 := by omega
      have a0' : (0 : Int) ≤ a := by omega
      simp [wpk_skip, wpk_seq, k_cond, wpk_block, wpk_exit, wpk_ret, wpk_loop, k_ops, k_draw0, t_nil, t_cons, KT_eq, KD_eq, wpo_nil, k_cons, k_step, mt_some, mtk_some, KO_eq, KP_eq, K_normal, K_ret, K_exit, KB_normal, KB_ret, KB_exit, KL_normal, KL_ret, KL_exit, k_ret, k_normal, stepE, isCall, calleeE, opE, wantE, odE, odS, odL, odSL, fget, fput, initE, keepF, List.map_cons, List.map_nil, binE, intOp, strOp, shOp, unE, eqpE, eqnE, neqB, ressE, resE, packL, packE, flat1, fcells, fillE, setL, cellsOf_bind, cellsO_own, cellsO_ro, lenE_sl, lenE_nils, lenE_sl0, bound, rep, minE, maxE, List.getElem?_cons_zero, List.getElem?_cons_succ, get_lt, set_lt, get_len, get_len_add, set_len, set_len_add, List.append_assoc, List.cons_append, List.nil_append, -getElem?_pos, l36_0_2, l36_0_1, l36_0, hlt, al, s36_3, s36_4, idxI, a0, a0', hi', li', c1, c2, f2]
      exact hΨ _ _ ⟨gr, rfl⟩
theorem Rt.rate {b : Nat} {h : LH} {i : Nat} {v : SV} {l : List Ro} (t : Rt b h i v l) (j : ByteArray) (y p : Int) :
    WPc C 36 [.s (.ptr i 0), .s (.str j), .s (.int .i64 y), .s (.int .i64 p)] h fun u h' => Gr h h' ∧ u = .tup [.s (.int .i64 (rateOf (bestF j y p l))), .s (.bool (bestF j y p l).isSome)] :=
  rrate_ok t.obj (t.rows.rd encR_len) (by have := t.len; omega) j y p
end Go.Proofs.Ytcimcccnhbbncaa.Ev.CE
