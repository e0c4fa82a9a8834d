/- EnactErrors on the small machine. -/
import Derived.Test.YtcimcccnhbbncaaEnB
import Derived.Test.YtcimcccnhbbncaaEvRow
set_option linter.unusedSimpArgs false
set_option linter.unusedVariables false
namespace Go.Proofs.Ytcimcccnhbbncaa.Ev.CE
open Go

def la : ByteArray := ⟨#[97]⟩
def rowsN (n : Nat) : List Ro := (List.range n).map fun k : Nat => ⟨la, k, 1000 * k, k⟩
theorem rowsN_succ (n : Nat) : rowsN (n + 1) = rowsN n ++ [⟨la, n, 1000 * n, n⟩] := by
  unfold rowsN
  rw [List.range_succ, List.map_append]; rfl
theorem rowsN_len (n : Nat) : (rowsN n).length = n := by simp [rowsN]
theorem la_arg {y r p : Int} (hy : 0 ≤ y ∧ y ≤ 99) (hr : 0 ≤ r ∧ r ≤ 1000000) (hp : 0 ≤ p ∧ p ≤ 399) : argOk la y r p = true := by
  unfold argOk
  rw [show la.toList.isEmpty = false by decide +kernel, decide_eq_true hy, decide_eq_true hr, decide_eq_true hp]; rfl
theorem rowsN_none (n : Nat) : (rowsN n).any (sameR la n n) = false := by
  rw [List.any_eq_false]
  intro x hx
  obtain ⟨k, hk, rfl⟩ := List.mem_map.1 hx
  have := List.mem_range.1 hk
  simp [sameR]; omega
theorem rowsN_some {n m : Nat} (h : n < m) : (rowsN m).any (sameR la n n) = true := by
  rw [List.any_eq_true]
  exact ⟨⟨la, n, 1000 * n, n⟩, List.mem_map.2 ⟨n, List.mem_range.2 h, rfl⟩, by simp [sameR]⟩
theorem best_upto (y p : Int) : ∀ (n : Nat) (s : Option Ro), bestF la y p (rowsN n) = if min y p < 0 ∨ n = 0 then none else some (let k := min (n - 1) (min y p).toNat; ⟨la, k, 1000 * k, k⟩)
  | 0, _ => by simp [rowsN, bestF]
  | n + 1, s => by
    have ih := best_upto y p n s
    unfold bestF at ih ⊢
    rw [rowsN_succ, List.foldl_append, ih, List.foldl_cons, List.foldl_nil]
    have e : (la.toList == la.toList) = true := by simp
    by_cases h0 : min y p < 0
    · rw [if_pos (.inl h0), if_pos (.inl h0)]
      unfold stepB
      rw [if_pos (by simp only; omega)]
    · by_cases hn : n = 0
      · subst hn
        rw [if_pos (.inr rfl), if_neg (by omega)]
        unfold stepB
        rw [if_neg (by simp only [e]; simp; omega)]
        simp
      · rw [if_neg (by omega), if_neg (by omega)]
        unfold stepB
        by_cases c : (n : Int) ≤ min y p
        · rw [if_neg (by simp only [e]; simp; omega)]
          simp only
          rw [if_pos (by left; omega)]
          have : min (n + 1 - 1) (min y p).toNat = n := by omega
          rw [this]
        · rw [if_pos (by simp only; omega)]
          have : min (n + 1 - 1) (min y p).toNat = min (n - 1) (min y p).toNat := by omega
          rw [this]

set_option maxRecDepth 20000 in
set_option maxHeartbeats 4000000 in
theorem enactErrors_ok {h0 : LH} (nn : Int) : ∃ h', callX C 8 [.s (.int .i64 nn)] h0 = some (.s (.bool true), h') ∧ True := by
  suffices w : WPc C 8 [.s (.int .i64 nn)] h0 fun u _ => u = .s (.bool true) by
    obtain ⟨v, h', e, rfl⟩ := w
    exact ⟨h', e, trivial⟩
  refine WPc.post fun Ψ hΨ => ?_
  refine WPc.intro (e := e8) rfl (by simp [e8]) ?_
  show WPk C b8 _ _ (KR [.tmp 2] _)
  have bad : ∀ {l : List Ro} {j : ByteArray} {y r p : Int}, argOk j y r p = false → addR l j y r p = (1, l) := by
    intro l j y r p h; unfold addR; rw [if_pos h]
  have t0 := new_tb h0
  have g0 := Gr.self h0 [LO.own 79 [.nils]]
  simp [wpk_skip, wpk_seq, k_cond, wpk_block, wpk_exit, wpk_ret, wpk_loop, k_ops, k_draw0, t_nil, t_cons, KT_eq, KD_eq, wpo_nil, k_cons, k_step, mt_some, mtk_some, KO_eq, KP_eq, K_normal, K_ret, K_exit, KB_normal, KB_ret, KB_exit, KL_normal, KL_ret, KL_exit, k_ret, k_normal, stepE, isCall, calleeE, opE, wantE, odE, odS, odL, odSL, fget, fput, initE, keepF, List.map_cons, List.map_nil, binE, intOp, strOp, shOp, unE, eqpE, eqnE, neqB, ressE, resE, packL, packE, flat1, fcells, fillE, setL, cellsOf_bind, cellsO_own, cellsO_ro, lenE_sl, lenE_nils, lenE_sl0, bound, rep, minE, maxE, List.getElem?_cons_zero, List.getElem?_cons_succ, get_lt, set_lt, get_len, get_len_add, set_len, set_len_add, List.append_assoc, List.cons_append, List.nil_append, -getElem?_pos, b8, s8_1, s8_2, s8_3, new_ok]
  refine WPc.go (add_ok t0 ⟨#[]⟩ 1 1 1) ?_
  rintro _ h1 ⟨c1, rfl, v1, t1⟩
  rw [bad (by decide +kernel)] at t1 ⊢
  have g1 := c1.base t0 g0
  simp only at t1 ⊢
  simp [wpk_skip, wpk_seq, k_cond, wpk_block, wpk_exit, wpk_ret, wpk_loop, k_ops, k_draw0, t_nil, t_cons, KT_eq, KD_eq, wpo_nil, k_cons, k_step, mt_some, mtk_some, KO_eq, KP_eq, K_normal, K_ret, K_exit, KB_normal, KB_ret, KB_exit, KL_normal, KL_ret, KL_exit, k_ret, k_normal, stepE, isCall, calleeE, opE, wantE, odE, odS, odL, odSL, fget, fput, initE, keepF, List.map_cons, List.map_nil, binE, intOp, strOp, shOp, unE, eqpE, eqnE, neqB, ressE, resE, packL, packE, flat1, fcells, fillE, setL, cellsOf_bind, cellsO_own, cellsO_ro, lenE_sl, lenE_nils, lenE_sl0, bound, rep, minE, maxE, List.getElem?_cons_zero, List.getElem?_cons_succ, get_lt, set_lt, get_len, get_len_add, set_len, set_len_add, List.append_assoc, List.cons_append, List.nil_append, -getElem?_pos, ]
  refine WPc.go (add_ok t1 la (-1) 1 1) ?_
  rintro _ h2 ⟨c2, rfl, v2, t2⟩
  rw [bad (by decide +kernel)] at t2 ⊢
  have g2 := c2.base t1 g1
  simp only at t2 ⊢
  simp [wpk_skip, wpk_seq, k_cond, wpk_block, wpk_exit, wpk_ret, wpk_loop, k_ops, k_draw0, t_nil, t_cons, KT_eq, KD_eq, wpo_nil, k_cons, k_step, mt_some, mtk_some, KO_eq, KP_eq, K_normal, K_ret, K_exit, KB_normal, KB_ret, KB_exit, KL_normal, KL_ret, KL_exit, k_ret, k_normal, stepE, isCall, calleeE, opE, wantE, odE, odS, odL, odSL, fget, fput, initE, keepF, List.map_cons, List.map_nil, binE, intOp, strOp, shOp, unE, eqpE, eqnE, neqB, ressE, resE, packL, packE, flat1, fcells, fillE, setL, cellsOf_bind, cellsO_own, cellsO_ro, lenE_sl, lenE_nils, lenE_sl0, bound, rep, minE, maxE, List.getElem?_cons_zero, List.getElem?_cons_succ, get_lt, set_lt, get_len, get_len_add, set_len, set_len_add, List.append_assoc, List.cons_append, List.nil_append, -getElem?_pos, ]
  refine WPc.go (add_ok t2 la 100 1 1) ?_
  rintro _ h3 ⟨c3, rfl, v3, t3⟩
  rw [bad (by decide +kernel)] at t3 ⊢
  have g3 := c3.base t2 g2
  simp only at t3 ⊢
  simp [wpk_skip, wpk_seq, k_cond, wpk_block, wpk_exit, wpk_ret, wpk_loop, k_ops, k_draw0, t_nil, t_cons, KT_eq, KD_eq, wpo_nil, k_cons, k_step, mt_some, mtk_some, KO_eq, KP_eq, K_normal, K_ret, K_exit, KB_normal, KB_ret, KB_exit, KL_normal, KL_ret, KL_exit, k_ret, k_normal, stepE, isCall, calleeE, opE, wantE, odE, odS, odL, odSL, fget, fput, initE, keepF, List.map_cons, List.map_nil, binE, intOp, strOp, shOp, unE, eqpE, eqnE, neqB, ressE, resE, packL, packE, flat1, fcells, fillE, setL, cellsOf_bind, cellsO_own, cellsO_ro, lenE_sl, lenE_nils, lenE_sl0, bound, rep, minE, maxE, List.getElem?_cons_zero, List.getElem?_cons_succ, get_lt, set_lt, get_len, get_len_add, set_len, set_len_add, List.append_assoc, List.cons_append, List.nil_append, -getElem?_pos, ]
  refine WPc.go (add_ok t3 la 1 (-1) 1) ?_
  rintro _ h4 ⟨c4, rfl, v4, t4⟩
  rw [bad (by decide +kernel)] at t4 ⊢
  have g4 := c4.base t3 g3
  simp only at t4 ⊢
  simp [wpk_skip, wpk_seq, k_cond, wpk_block, wpk_exit, wpk_ret, wpk_loop, k_ops, k_draw0, t_nil, t_cons, KT_eq, KD_eq, wpo_nil, k_cons, k_step, mt_some, mtk_some, KO_eq, KP_eq, K_normal, K_ret, K_exit, KB_normal, KB_ret, KB_exit, KL_normal, KL_ret, KL_exit, k_ret, k_normal, stepE, isCall, calleeE, opE, wantE, odE, odS, odL, odSL, fget, fput, initE, keepF, List.map_cons, List.map_nil, binE, intOp, strOp, shOp, unE, eqpE, eqnE, neqB, ressE, resE, packL, packE, flat1, fcells, fillE, setL, cellsOf_bind, cellsO_own, cellsO_ro, lenE_sl, lenE_nils, lenE_sl0, bound, rep, minE, maxE, List.getElem?_cons_zero, List.getElem?_cons_succ, get_lt, set_lt, get_len, get_len_add, set_len, set_len_add, List.append_assoc, List.cons_append, List.nil_append, -getElem?_pos, ]
  refine WPc.go (add_ok t4 la 1 1000001 1) ?_
  rintro _ h5 ⟨c5, rfl, v5, t5⟩
  rw [bad (by decide +kernel)] at t5 ⊢
  have g5 := c5.base t4 g4
  simp only at t5 ⊢
  simp [wpk_skip, wpk_seq, k_cond, wpk_block, wpk_exit, wpk_ret, wpk_loop, k_ops, k_draw0, t_nil, t_cons, KT_eq, KD_eq, wpo_nil, k_cons, k_step, mt_some, mtk_some, KO_eq, KP_eq, K_normal, K_ret, K_exit, KB_normal, KB_ret, KB_exit, KL_normal, KL_ret, KL_exit, k_ret, k_normal, stepE, isCall, calleeE, opE, wantE, odE, odS, odL, odSL, fget, fput, initE, keepF, List.map_cons, List.map_nil, binE, intOp, strOp, shOp, unE, eqpE, eqnE, neqB, ressE, resE, packL, packE, flat1, fcells, fillE, setL, cellsOf_bind, cellsO_own, cellsO_ro, lenE_sl, lenE_nils, lenE_sl0, bound, rep, minE, maxE, List.getElem?_cons_zero, List.getElem?_cons_succ, get_lt, set_lt, get_len, get_len_add, set_len, set_len_add, List.append_assoc, List.cons_append, List.nil_append, -getElem?_pos, ]
  refine WPc.go (add_ok t5 la 1 1 (-1)) ?_
  rintro _ h6 ⟨c6, rfl, v6, t6⟩
  rw [bad (by decide +kernel)] at t6 ⊢
  have g6 := c6.base t5 g5
  simp only at t6 ⊢
  simp [wpk_skip, wpk_seq, k_cond, wpk_block, wpk_exit, wpk_ret, wpk_loop, k_ops, k_draw0, t_nil, t_cons, KT_eq, KD_eq, wpo_nil, k_cons, k_step, mt_some, mtk_some, KO_eq, KP_eq, K_normal, K_ret, K_exit, KB_normal, KB_ret, KB_exit, KL_normal, KL_ret, KL_exit, k_ret, k_normal, stepE, isCall, calleeE, opE, wantE, odE, odS, odL, odSL, fget, fput, initE, keepF, List.map_cons, List.map_nil, binE, intOp, strOp, shOp, unE, eqpE, eqnE, neqB, ressE, resE, packL, packE, flat1, fcells, fillE, setL, cellsOf_bind, cellsO_own, cellsO_ro, lenE_sl, lenE_nils, lenE_sl0, bound, rep, minE, maxE, List.getElem?_cons_zero, List.getElem?_cons_succ, get_lt, set_lt, get_len, get_len_add, set_len, set_len_add, List.append_assoc, List.cons_append, List.nil_append, -getElem?_pos, ]
  refine WPc.go (add_ok t6 la 1 1 400) ?_
  rintro _ h7 ⟨c7, rfl, v7, t7⟩
  rw [bad (by decide +kernel)] at t7 ⊢
  have g7 := c7.base t6 g6
  simp only at t7 ⊢
  simp [wpk_skip, wpk_seq, k_cond, wpk_block, wpk_exit, wpk_ret, wpk_loop, k_ops, k_draw0, t_nil, t_cons, KT_eq, KD_eq, wpo_nil, k_cons, k_step, mt_some, mtk_some, KO_eq, KP_eq, K_normal, K_ret, K_exit, KB_normal, KB_ret, KB_exit, KL_normal, KL_ret, KL_exit, k_ret, k_normal, stepE, isCall, calleeE, opE, wantE, odE, odS, odL, odSL, fget, fput, initE, keepF, List.map_cons, List.map_nil, binE, intOp, strOp, shOp, unE, eqpE, eqnE, neqB, ressE, resE, packL, packE, flat1, fcells, fillE, setL, cellsOf_bind, cellsO_own, cellsO_ro, lenE_sl, lenE_nils, lenE_sl0, bound, rep, minE, maxE, List.getElem?_cons_zero, List.getElem?_cons_succ, get_lt, set_lt, get_len, get_len_add, set_len, set_len_add, List.append_assoc, List.cons_append, List.nil_append, -getElem?_pos, ]
  have hones : (h7 ++ [LO.own 31 [.int .i64 1, .int .i64 1, .int .i64 1, .int .i64 1, .int .i64 1, .int .i64 1, .int .i64 1]])[h7.length]? = some (.own 31 (([1, 1, 1, 1, 1, 1, 1] : List Int).flatMap encI)) := get_len
  have rd := Rd.lit encI_len hones (p := 0)
  have t8 := t7.gr (Gr.self h7 [LO.own 31 [.int .i64 1, .int .i64 1, .int .i64 1, .int .i64 1, .int .i64 1, .int .i64 1, .int .i64 1]])
  have g8 := g7.trans (Gr.self h7 [LO.own 31 [.int .i64 1, .int .i64 1, .int .i64 1, .int .i64 1, .int .i64 1, .int .i64 1, .int .i64 1]])
  generalize h7 ++ [LO.own 31 [.int .i64 1, .int .i64 1, .int .i64 1, .int .i64 1, .int .i64 1, .int .i64 1, .int .i64 1]] = H8 at *
  refine WPl.inv2 (fun n fr h' => h' = H8 ∧ ∃ k : Nat, k ≤ 7 ∧ n = 7 - k ∧ fr = [(0, some (.s (.int .i64 nn))), (3, some (.s (.ptr h0.length 0))), (29, some (.s (.sl h7.length 0 0 7))), (30, some (.s (.int .i64 7))), (31, some (.s (.int .i64 k)))]) ?_ _ _ _ ⟨rfl, 0, by omega, rfl, rfl⟩
  rintro I hI n fr h' ⟨rfl, k, hk, rfl, rfl⟩
  refine ⟨by simp [keepF, fget], ?_⟩
  by_cases hlt : k < 7
  · have hlt' : (k : Int) < 7 := by omega
    obtain ⟨j1, p1, q1, ob1, vs1, e, d1, d2, d3⟩ := rd.int (k := k) hlt
    have e' := e
    simp only [SV.sl.injEq] at e'
    obtain ⟨rfl, rfl, rfl, -⟩ := e'
    have hone : ([1, 1, 1, 1, 1, 1, 1] : List Int)[k]'hlt = 1 := by
      have : ∀ k (h : k < 7), ([1, 1, 1, 1, 1, 1, 1] : List Int)[k]'h = 1 := by decide
      exact this k hlt
    rw [hone] at d3
    have z3 : IntKind.i64.wrap ((k : Int) + 1) = ((k + 1 : Nat) : Int) := wrap_small (by omega) (by omega)
    simp only [Nat.zero_add] at d3
    simp [wpk_skip, wpk_seq, k_cond, wpk_block, wpk_exit, wpk_ret, wpk_loop, k_ops, k_draw0, t_nil, t_cons, KT_eq, KD_eq, wpo_nil, k_cons, k_step, mt_some, mtk_some, KO_eq, KP_eq, K_normal, K_ret, K_exit, KB_normal, KB_ret, KB_exit, KL_normal, KL_ret, KL_exit, k_ret, k_normal, stepE, isCall, calleeE, opE, wantE, odE, odS, odL, odSL, fget, fput, initE, keepF, List.map_cons, List.map_nil, binE, intOp, strOp, shOp, unE, eqpE, eqnE, neqB, ressE, resE, packL, packE, flat1, fcells, fillE, setL, cellsOf_bind, cellsO_own, cellsO_ro, lenE_sl, lenE_nils, lenE_sl0, bound, rep, minE, maxE, List.getElem?_cons_zero, List.getElem?_cons_succ, get_lt, set_lt, get_len, get_len_add, set_len, set_len_add, List.append_assoc, List.cons_append, List.nil_append, -getElem?_pos, l8_0_2, l8_0_1, l8_0, hlt', d1, d2, d3, z3]
    exact ⟨_, by omega, hI _ _ _ ⟨rfl, k + 1, by omega, rfl, rfl⟩⟩
  obtain rfl : k = 7 := by omega
  simp [wpk_skip, wpk_seq, k_cond, wpk_block, wpk_exit, wpk_ret, wpk_loop, k_ops, k_draw0, t_nil, t_cons, KT_eq, KD_eq, wpo_nil, k_cons, k_step, mt_some, mtk_some, KO_eq, KP_eq, K_normal, K_ret, K_exit, KB_normal, KB_ret, KB_exit, KL_normal, KL_ret, KL_exit, k_ret, k_normal, stepE, isCall, calleeE, opE, wantE, odE, odS, odL, odSL, fget, fput, initE, keepF, List.map_cons, List.map_nil, binE, intOp, strOp, shOp, unE, eqpE, eqnE, neqB, ressE, resE, packL, packE, flat1, fcells, fillE, setL, cellsOf_bind, cellsO_own, cellsO_ro, lenE_sl, lenE_nils, lenE_sl0, bound, rep, minE, maxE, List.getElem?_cons_zero, List.getElem?_cons_succ, get_lt, set_lt, get_len, get_len_add, set_len, set_len_add, List.append_assoc, List.cons_append, List.nil_append, -getElem?_pos, l8_0_2, l8_0_1, l8_0, s8_4]
  refine WPc.go t8.rs ?_
  rintro _ h9 ⟨g9, w9, rfl, ow9⟩
  have t9 := t8.gr g9
  have g9' := g8.trans g9
  have l9 := ow9.len
  simp at l9
  simp [wpk_skip, wpk_seq, k_cond, wpk_block, wpk_exit, wpk_ret, wpk_loop, k_ops, k_draw0, t_nil, t_cons, KT_eq, KD_eq, wpo_nil, k_cons, k_step, mt_some, mtk_some, KO_eq, KP_eq, K_normal, K_ret, K_exit, KB_normal, KB_ret, KB_exit, KL_normal, KL_ret, KL_exit, k_ret, k_normal, stepE, isCall, calleeE, opE, wantE, odE, odS, odL, odSL, fget, fput, initE, keepF, List.map_cons, List.map_nil, binE, intOp, strOp, shOp, unE, eqpE, eqnE, neqB, ressE, resE, packL, packE, flat1, fcells, fillE, setL, cellsOf_bind, cellsO_own, cellsO_ro, lenE_sl, lenE_nils, lenE_sl0, bound, rep, minE, maxE, List.getElem?_cons_zero, List.getElem?_cons_succ, get_lt, set_lt, get_len, get_len_add, set_len, set_len_add, List.append_assoc, List.cons_append, List.nil_append, -getElem?_pos, l9, s8_5]
  refine WPl.post (fun x fr' h' => x = .exit 2 ∧ Gr h0 h' ∧ fr' = [(0, some (.s (.int .i64 nn))), (3, some (.s (.ptr h0.length 0)))] ∧ ∃ v, Tb h0.length h' h0.length v (rowsN 24)) (fun Φ hΦ => ?_) ?_
  · refine WPl.inv2 (fun n fr h' => Gr h0 h' ∧ ∃ (k : Nat) (v : SV), k ≤ 24 ∧ n = 24 - k ∧ Tb h0.length h' h0.length v (rowsN k) ∧ fr = [(0, some (.s (.int .i64 nn))), (3, some (.s (.ptr h0.length 0))), (6, some (.s (.int .i64 k)))]) ?_ _ _ _ ⟨g9', 0, v7, by omega, rfl, t9, rfl⟩
    rintro I hI n fr h' ⟨gr, k, v, hk, rfl, tt, rfl⟩
    refine ⟨by simp [keepF, fget], ?_⟩
    by_cases hlt : k < 24
    · have hlt' : (k : Int) < 24 := by omega
      have z1 : IntKind.i64.wrap (1000 * (k : Int)) = 1000 * (k : Int) := wrap_small (by omega) (by omega)
      have z3 : IntKind.i64.wrap ((k : Int) + 1) = ((k + 1 : Nat) : Int) := wrap_small (by omega) (by omega)
      simp [wpk_skip, wpk_seq, k_cond, wpk_block, wpk_exit, wpk_ret, wpk_loop, k_ops, k_draw0, t_nil, t_cons, KT_eq, KD_eq, wpo_nil, k_cons, k_step, mt_some, mtk_some, KO_eq, KP_eq, K_normal, K_ret, K_exit, KB_normal, KB_ret, KB_exit, KL_normal, KL_ret, KL_exit, k_ret, k_normal, stepE, isCall, calleeE, opE, wantE, odE, odS, odL, odSL, fget, fput, initE, keepF, List.map_cons, List.map_nil, binE, intOp, strOp, shOp, unE, eqpE, eqnE, neqB, ressE, resE, packL, packE, flat1, fcells, fillE, setL, cellsOf_bind, cellsO_own, cellsO_ro, lenE_sl, lenE_nils, lenE_sl0, bound, rep, minE, maxE, List.getElem?_cons_zero, List.getElem?_cons_succ, get_lt, set_lt, get_len, get_len_add, set_len, set_len_add, List.append_assoc, List.cons_append, List.nil_append, -getElem?_pos, l8_1_1, l8_1, hlt', z1]
      refine WPc.go (add_ok tt la k (1000 * k) k) ?_
      rintro _ h2' ⟨cc, rfl, v', tt'⟩
      have e : addR (rowsN k) la k (1000 * k) k = (0, rowsN (k + 1)) := by
        unfold addR
        rw [la_arg (by omega) (by omega) (by omega), rowsN_none, if_neg (by simp), if_neg (by simp), if_neg (by rw [rowsN_len]; omega), rowsN_succ]
      rw [e] at tt' ⊢
      have gg := cc.base tt gr
      simp [wpk_skip, wpk_seq, k_cond, wpk_block, wpk_exit, wpk_ret, wpk_loop, k_ops, k_draw0, t_nil, t_cons, KT_eq, KD_eq, wpo_nil, k_cons, k_step, mt_some, mtk_some, KO_eq, KP_eq, K_normal, K_ret, K_exit, KB_normal, KB_ret, KB_exit, KL_normal, KL_ret, KL_exit, k_ret, k_normal, stepE, isCall, calleeE, opE, wantE, odE, odS, odL, odSL, fget, fput, initE, keepF, List.map_cons, List.map_nil, binE, intOp, strOp, shOp, unE, eqpE, eqnE, neqB, ressE, resE, packL, packE, flat1, fcells, fillE, setL, cellsOf_bind, cellsO_own, cellsO_ro, lenE_sl, lenE_nils, lenE_sl0, bound, rep, minE, maxE, List.getElem?_cons_zero, List.getElem?_cons_succ, get_lt, set_lt, get_len, get_len_add, set_len, set_len_add, List.append_assoc, List.cons_append, List.nil_append, -getElem?_pos, z3]
      exact ⟨_, by omega, hI _ _ _ ⟨gg, k + 1, v', by omega, rfl, tt', rfl⟩⟩
    · obtain rfl : k = 24 := by omega
      simp [wpk_skip, wpk_seq, k_cond, wpk_block, wpk_exit, wpk_ret, wpk_loop, k_ops, k_draw0, t_nil, t_cons, KT_eq, KD_eq, wpo_nil, k_cons, k_step, mt_some, mtk_some, KO_eq, KP_eq, K_normal, K_ret, K_exit, KB_normal, KB_ret, KB_exit, KL_normal, KL_ret, KL_exit, k_ret, k_normal, stepE, isCall, calleeE, opE, wantE, odE, odS, odL, odSL, fget, fput, initE, keepF, List.map_cons, List.map_nil, binE, intOp, strOp, shOp, unE, eqpE, eqnE, neqB, ressE, resE, packL, packE, flat1, fcells, fillE, setL, cellsOf_bind, cellsO_own, cellsO_ro, lenE_sl, lenE_nils, lenE_sl0, bound, rep, minE, maxE, List.getElem?_cons_zero, List.getElem?_cons_succ, get_lt, set_lt, get_len, get_len_add, set_len, set_len_add, List.append_assoc, List.cons_append, List.nil_append, -getElem?_pos, l8_1_1, l8_1]
      exact hΦ _ _ _ ⟨rfl, gr, rfl, v, tt⟩
  · rintro x fr' hA ⟨rfl, gA, rfl, vA, tA⟩
    have y1 := fun h => within_ok nn 24 (by omega) h
    have r1 : 0 ≤ nn % 24 ∧ nn % 24 < 24 := by omega
    obtain ⟨m, hm⟩ : ∃ m : Nat, nn % 24 = m := ⟨(nn % 24).toNat, by omega⟩
    rw [hm] at y1 r1
    have hm24 : m < 24 := by omega
    simp [wpk_skip, wpk_seq, k_cond, wpk_block, wpk_exit, wpk_ret, wpk_loop, k_ops, k_draw0, t_nil, t_cons, KT_eq, KD_eq, wpo_nil, k_cons, k_step, mt_some, mtk_some, KO_eq, KP_eq, K_normal, K_ret, K_exit, KB_normal, KB_ret, KB_exit, KL_normal, KL_ret, KL_exit, k_ret, k_normal, stepE, isCall, calleeE, opE, wantE, odE, odS, odL, odSL, fget, fput, initE, keepF, List.map_cons, List.map_nil, binE, intOp, strOp, shOp, unE, eqpE, eqnE, neqB, ressE, resE, packL, packE, flat1, fcells, fillE, setL, cellsOf_bind, cellsO_own, cellsO_ro, lenE_sl, lenE_nils, lenE_sl0, bound, rep, minE, maxE, List.getElem?_cons_zero, List.getElem?_cons_succ, get_lt, set_lt, get_len, get_len_add, set_len, set_len_add, List.append_assoc, List.cons_append, List.nil_append, -getElem?_pos, s8_6, s8_7, y1]
    refine WPc.go tA.rs ?_
    rintro _ hB ⟨gB, wB, rfl, owB⟩
    have tB := tA.gr gB
    have lB := owB.len
    rw [rowsN_len] at lB
    have hmr : m < (rowsN 24).length := by rw [rowsN_len]; exact hm24
    have hrow : (rowsN 24)[m] = ⟨la, m, 1000 * m, m⟩ := by simp [rowsN]
    obtain ⟨jB, pB, oB, obB, vsB, eB, d1, d2, d3, d4, -⟩ := (owB.rd encR_len).at encR_len hmr
    rw [hrow] at d4
    simp only [encR] at d4
    have owB' := owB
    rcases owB' with ⟨hnil, _⟩ | ⟨j', b1, b2, b3⟩
    · exfalso
      have := congrArg List.length hnil
      rw [rowsN_len] at this; simp at this
    rw [rowsN_len] at eB b2
    have eB' := eB.symm.trans b2
    simp only [SV.sl.injEq] at eB'
    obtain ⟨rfl, rfl, rfl, -⟩ := eB'
    subst eB
    rw [b3] at d1
    cases d1
    cases d2
    have b4 := lt_of_some b3
    have z1 : IntKind.i64.wrap (1000 * (m : Int)) = 1000 * (m : Int) := wrap_small (by omega) (by omega)
    have hm1 : (m : Int) < 24 := by omega
    have hce : cellsEq [.str la, .int .i64 m, .int .i64 (1000 * m), .int .i64 m] [.str la, .int .i64 m, .int .i64 (1000 * m), .int .i64 m] [(0, 2), (1, 0), (2, 0), (3, 0)] = some true := by
      have hl : (la == la) = true := by decide +kernel
      simp [cellsEq, cellEq, hl]
    have hce' : cellsEq [.str ⟨#[97]⟩, .int .i64 m, .int .i64 (1000 * m), .int .i64 m] [.str ⟨#[97]⟩, .int .i64 m, .int .i64 (1000 * m), .int .i64 m] [(0, 2), (1, 0), (2, 0), (3, 0)] = some true := hce
    have d4' : List.take 4 (List.drop (m * 4) ((rowsN 24).flatMap encR)) = [.str ⟨#[97]⟩, .int .i64 m, .int .i64 (1000 * m), .int .i64 m] := by simpa [la] using d4
    simp only [Nat.zero_add] at d3
    have d3' : m * 4 + 2 + 1 ≤ ((rowsN 24).flatMap encR).length := by omega
    have hb9 : hA.length ≤ jB := b1
    have tC := fun (x : LO) => tA.gr (((Gr.refl hA).trans gB).set x hb9)
    generalize (rowsN 24).flatMap encR = VS at *
    simp [wpk_skip, wpk_seq, k_cond, wpk_block, wpk_exit, wpk_ret, wpk_loop, k_ops, k_draw0, t_nil, t_cons, KT_eq, KD_eq, wpo_nil, k_cons, k_step, mt_some, mtk_some, KO_eq, KP_eq, K_normal, K_ret, K_exit, KB_normal, KB_ret, KB_exit, KL_normal, KL_ret, KL_exit, k_ret, k_normal, stepE, isCall, calleeE, opE, wantE, odE, odS, odL, odSL, fget, fput, initE, keepF, List.map_cons, List.map_nil, binE, intOp, strOp, shOp, unE, eqpE, eqnE, neqB, ressE, resE, packL, packE, flat1, fcells, fillE, setL, cellsOf_bind, cellsO_own, cellsO_ro, lenE_sl, lenE_nils, lenE_sl0, bound, rep, minE, maxE, List.getElem?_cons_zero, List.getElem?_cons_succ, get_lt, set_lt, get_len, get_len_add, set_len, set_len_add, List.append_assoc, List.cons_append, List.nil_append, -getElem?_pos, s8_8, s8_9, s8_10, lB, b3, b4, hm1, d3, d3', d4', z1, hce']
    refine WPc.go ((tC _).rate la m 399) ?_
    rintro _ hD ⟨gD, rfl⟩
    have e1 := best_upto m 399 24 none
    rw [if_neg (by omega)] at e1
    have k1 : min (24 - 1) (min (m : Int) 399).toNat = m := by omega
    rw [k1] at e1
    rw [e1]
    have tD := (tC _).gr gD
    simp [wpk_skip, wpk_seq, k_cond, wpk_block, wpk_exit, wpk_ret, wpk_loop, k_ops, k_draw0, t_nil, t_cons, KT_eq, KD_eq, wpo_nil, k_cons, k_step, mt_some, mtk_some, KO_eq, KP_eq, K_normal, K_ret, K_exit, KB_normal, KB_ret, KB_exit, KL_normal, KL_ret, KL_exit, k_ret, k_normal, stepE, isCall, calleeE, opE, wantE, odE, odS, odL, odSL, fget, fput, initE, keepF, List.map_cons, List.map_nil, binE, intOp, strOp, shOp, unE, eqpE, eqnE, neqB, ressE, resE, packL, packE, flat1, fcells, fillE, setL, cellsOf_bind, cellsO_own, cellsO_ro, lenE_sl, lenE_nils, lenE_sl0, bound, rep, minE, maxE, List.getElem?_cons_zero, List.getElem?_cons_succ, get_lt, set_lt, get_len, get_len_add, set_len, set_len_add, List.append_assoc, List.cons_append, List.nil_append, -getElem?_pos, s8_11]
    refine WPc.go (tD.rate la 99 m) ?_
    rintro _ hE ⟨gE, rfl⟩
    have e2 := best_upto 99 m 24 none
    rw [if_neg (by omega)] at e2
    have k2 : min (24 - 1) (min (99 : Int) (m : Int)).toNat = m := by omega
    rw [k2] at e2
    rw [e2]
    have tE := tD.gr gE
    have eqr : (rateOf (some ⟨la, m, 1000 * m, m⟩) == 1000 * (m : Int)) = true := by simp [rateOf]
    have eqr' : rateOf (some ⟨la, m, 1000 * m, m⟩) = 1000 * (m : Int) := rfl
    simp [wpk_skip, wpk_seq, k_cond, wpk_block, wpk_exit, wpk_ret, wpk_loop, k_ops, k_draw0, t_nil, t_cons, KT_eq, KD_eq, wpo_nil, k_cons, k_step, mt_some, mtk_some, KO_eq, KP_eq, K_normal, K_ret, K_exit, KB_normal, KB_ret, KB_exit, KL_normal, KL_ret, KL_exit, k_ret, k_normal, stepE, isCall, calleeE, opE, wantE, odE, odS, odL, odSL, fget, fput, initE, keepF, List.map_cons, List.map_nil, binE, intOp, strOp, shOp, unE, eqpE, eqnE, neqB, ressE, resE, packL, packE, flat1, fcells, fillE, setL, cellsOf_bind, cellsO_own, cellsO_ro, lenE_sl, lenE_nils, lenE_sl0, bound, rep, minE, maxE, List.getElem?_cons_zero, List.getElem?_cons_succ, get_lt, set_lt, get_len, get_len_add, set_len, set_len_add, List.append_assoc, List.cons_append, List.nil_append, -getElem?_pos, s8_12, z1, eqr']
    refine WPc.go (add_ok tE la 90 1 1) ?_
    rintro _ hF ⟨cF, rfl, vF, tF⟩
    have e3 : addR (rowsN 24) la 90 1 1 = (5, rowsN 24) := by
      unfold addR
      rw [la_arg (by omega) (by omega) (by omega), if_neg (by simp)]
      have : (rowsN 24).any (sameR la 90 1) = false := by
        rw [List.any_eq_false]
        intro x hx
        obtain ⟨k, hk, rfl⟩ := List.mem_map.1 hx
        have := List.mem_range.1 hk
        simp [sameR]; omega
      rw [this, if_neg (by simp), if_pos (by rw [rowsN_len]; omega)]
    rw [e3] at tF ⊢
    simp [wpk_skip, wpk_seq, k_cond, wpk_block, wpk_exit, wpk_ret, wpk_loop, k_ops, k_draw0, t_nil, t_cons, KT_eq, KD_eq, wpo_nil, k_cons, k_step, mt_some, mtk_some, KO_eq, KP_eq, K_normal, K_ret, K_exit, KB_normal, KB_ret, KB_exit, KL_normal, KL_ret, KL_exit, k_ret, k_normal, stepE, isCall, calleeE, opE, wantE, odE, odS, odL, odSL, fget, fput, initE, keepF, List.map_cons, List.map_nil, binE, intOp, strOp, shOp, unE, eqpE, eqnE, neqB, ressE, resE, packL, packE, flat1, fcells, fillE, setL, cellsOf_bind, cellsO_own, cellsO_ro, lenE_sl, lenE_nils, lenE_sl0, bound, rep, minE, maxE, List.getElem?_cons_zero, List.getElem?_cons_succ, get_lt, set_lt, get_len, get_len_add, set_len, set_len_add, List.append_assoc, List.cons_append, List.nil_append, -getElem?_pos, ]
    refine WPc.go (add_ok tF la m 1 m) ?_
    rintro _ hG ⟨cG, rfl, vG, tG⟩
    have e4 : addR (rowsN 24) la m 1 m = (4, rowsN 24) := by
      unfold addR
      rw [la_arg (by omega) (by omega) (by omega), rowsN_some hm24, if_neg (by simp), if_pos rfl]
    rw [e4] at tG ⊢
    simp [wpk_skip, wpk_seq, k_cond, wpk_block, wpk_exit, wpk_ret, wpk_loop, k_ops, k_draw0, t_nil, t_cons, KT_eq, KD_eq, wpo_nil, k_cons, k_step, mt_some, mtk_some, KO_eq, KP_eq, K_normal, K_ret, K_exit, KB_normal, KB_ret, KB_exit, KL_normal, KL_ret, KL_exit, k_ret, k_normal, stepE, isCall, calleeE, opE, wantE, odE, odS, odL, odSL, fget, fput, initE, keepF, List.map_cons, List.map_nil, binE, intOp, strOp, shOp, unE, eqpE, eqnE, neqB, ressE, resE, packL, packE, flat1, fcells, fillE, setL, cellsOf_bind, cellsO_own, cellsO_ro, lenE_sl, lenE_nils, lenE_sl0, bound, rep, minE, maxE, List.getElem?_cons_zero, List.getElem?_cons_succ, get_lt, set_lt, get_len, get_len_add, set_len, set_len_add, List.append_assoc, List.cons_append, List.nil_append, -getElem?_pos, ]
    refine WPc.go (wakes_ok _) ?_
    rintro _ hH ⟨_, rfl⟩
    simp [wpk_skip, wpk_seq, k_cond, wpk_block, wpk_exit, wpk_ret, wpk_loop, k_ops, k_draw0, t_nil, t_cons, KT_eq, KD_eq, wpo_nil, k_cons, k_step, mt_some, mtk_some, KO_eq, KP_eq, K_normal, K_ret, K_exit, KB_normal, KB_ret, KB_exit, KL_normal, KL_ret, KL_exit, k_ret, k_normal, stepE, isCall, calleeE, opE, wantE, odE, odS, odL, odSL, fget, fput, initE, keepF, List.map_cons, List.map_nil, binE, intOp, strOp, shOp, unE, eqpE, eqnE, neqB, ressE, resE, packL, packE, flat1, fcells, fillE, setL, cellsOf_bind, cellsO_own, cellsO_ro, lenE_sl, lenE_nils, lenE_sl0, bound, rep, minE, maxE, List.getElem?_cons_zero, List.getElem?_cons_succ, get_lt, set_lt, get_len, get_len_add, set_len, set_len_add, List.append_assoc, List.cons_append, List.nil_append, -getElem?_pos, ]
    exact hΨ _ _ rfl
end Go.Proofs.Ytcimcccnhbbncaa.Ev.CE
