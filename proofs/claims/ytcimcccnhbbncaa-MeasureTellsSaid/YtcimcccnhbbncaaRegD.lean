/- Registers of numbers. -/
import Derived.Test.YtcimcccnhbbncaaRegC
set_option linter.unusedSimpArgs false
set_option linter.unusedVariables false
namespace Go.Proofs.Ytcimcccnhbbncaa.Ev.CE
open Go

set_option maxRecDepth 20000 in
set_option maxHeartbeats 4000000 in
theorem register13_ok {h : LH} {v : SV} {l : List Int} (r : Rd h 3 1 encI v l) (h64 : ∀ x ∈ l, is64 x) :
    WPc C 13 [.s v] h fun u h' => Gr h h' ∧ ∃ i w rows, u = .s (.ptr i 0) ∧ h.length ≤ i ∧ h'[i]? = some (.own 25 [w]) ∧ Ow h.length h' 30 encB w rows ∧ GoodB rows := by
  refine WPc.post fun Ψ hΨ => ?_
  refine WPc.intro (e := e13) rfl (by simp [e13]) ?_
  show WPk C b13 _ _ (KR [.tmp 2] _)
  simp [wpk_skip, wpk_seq, k_cond, wpk_block, wpk_exit, wpk_ret, wpk_loop, k_ops, k_draw0, t_nil, t_cons, KT_eq, KD_eq, wpo_nil, k_cons, k_step, mt_some, mtk_some, KO_eq, KP_eq, K_normal, K_ret, K_exit, KB_normal, KB_ret, KB_exit, KL_normal, KL_ret, KL_exit, k_ret, k_normal, stepE, isCall, calleeE, opE, wantE, odE, odS, odL, odSL, fget, fput, initE, keepF, List.map_cons, List.map_nil, binE, intOp, strOp, shOp, unE, eqpE, eqnE, neqB, ressE, resE, packL, packE, flat1, fcells, fillE, setL, cellsOf_bind, cellsO_own, cellsO_ro, lenE_sl, lenE_nils, lenE_sl0, bound, rep, minE, maxE, List.getElem?_cons_zero, List.getElem?_cons_succ, get_lt, set_lt, get_len, get_len_add, set_len, set_len_add, List.append_assoc, List.cons_append, List.nil_append, -getElem?_pos, b13, s13_3, s13_2, s13_1]
  refine WPl.post (fun x fr' h' => x = .exit 0 ∧ Gr h h' ∧ fr' = [(3, some (.s (.ptr h.length 0)))] ∧ ∃ w rows, h'[h.length]? = some (.own 25 [w]) ∧ Ow h.length h' 30 encB w rows ∧ GoodB rows) (fun Φ hΦ => ?_) ?_
  · refine WPl.inv2 (fun m fr h' => Gr h h' ∧ ∃ k w rows, k ≤ 10 ∧ m = 10 - k ∧ h'[h.length]? = some (.own 25 [w]) ∧ Ow h.length h' 30 encB w rows ∧ GoodB rows ∧
      fr = [(0, some (.s v)), (3, some (.s (.ptr h.length 0))), (4, some (.s (.int .i64 k)))]) ?_ _ _ _ ⟨Gr.self h _, 0, .nils, [], Nat.zero_le _, rfl, get_len, Ow.nil _ _, goodB_nil, rfl⟩
    rintro I hI m fr h' ⟨gr, k, w, rows, hk, rfl, ho, ow, g, rfl⟩
    refine ⟨by simp [keepF, fget], ?_⟩
    have rl := r.len
    by_cases hlt : k < l.length
    · by_cases h8 : k < 10
      · obtain ⟨j, p, q, ob, vs, rfl, q2, q3, q4⟩ := (r.gr gr).int hlt
        have hx := h64 _ (List.getElem_mem hlt)
        generalize l[k] = x at hx q4
        have a1 := within_ok x 3 (by omega)
        have a2 := tdiv_64 hx 3 (by omega)
        have a3 := within_ok (x.tdiv 3) 5 (by omega)
        have a4 := tdiv_64 hx 15 (by omega)
        have hx' : is64 (x.tdiv 15) := by
          rw [← a4]; exact wrap_64 _
        have a5 := fun h => amount_ok hx' h
        generalize amountF (x.tdiv 15) = y at a5
        have b1 : 0 ≤ x % 3 ∧ x % 3 < 3 := by omega
        have b2 : 0 ≤ x.tdiv 3 % 5 ∧ x.tdiv 3 % 5 < 5 := by omega
        generalize x % 3 = o at a1 b1
        generalize x.tdiv 3 % 5 = d at a3 b2
        have w1 : IntKind.i64.wrap (1 + o) = 1 + o := wrap_small (by omega) (by omega)
        have w3 : IntKind.i64.wrap ((k : Int) + 1) = ((k + 1 : Nat) : Int) := wrap_small (by omega) (by omega)
        have h8' : (k : Int) < 10 := by omega
        simp [wpk_skip, wpk_seq, k_cond, wpk_block, wpk_exit, wpk_ret, wpk_loop, k_ops, k_draw0, t_nil, t_cons, KT_eq, KD_eq, wpo_nil, k_cons, k_step, mt_some, mtk_some, KO_eq, KP_eq, K_normal, K_ret, K_exit, KB_normal, KB_ret, KB_exit, KL_normal, KL_ret, KL_exit, k_ret, k_normal, stepE, isCall, calleeE, opE, wantE, odE, odS, odL, odSL, fget, fput, initE, keepF, List.map_cons, List.map_nil, binE, intOp, strOp, shOp, unE, eqpE, eqnE, neqB, ressE, resE, packL, packE, flat1, fcells, fillE, setL, cellsOf_bind, cellsO_own, cellsO_ro, lenE_sl, lenE_nils, lenE_sl0, bound, rep, minE, maxE, List.getElem?_cons_zero, List.getElem?_cons_succ, get_lt, set_lt, get_len, get_len_add, set_len, set_len_add, List.append_assoc, List.cons_append, List.nil_append, -getElem?_pos, l13_0_1, l13_0, hlt, h8', q2, q3, q4, a1]
        refine k_draw ?_
        simp [wpk_skip, wpk_seq, k_cond, wpk_block, wpk_exit, wpk_ret, wpk_loop, k_ops, k_draw0, t_nil, t_cons, KT_eq, KD_eq, wpo_nil, k_cons, k_step, mt_some, mtk_some, KO_eq, KP_eq, K_normal, K_ret, K_exit, KB_normal, KB_ret, KB_exit, KL_normal, KL_ret, KL_exit, k_ret, k_normal, stepE, isCall, calleeE, opE, wantE, odE, odS, odL, odSL, fget, fput, initE, keepF, List.map_cons, List.map_nil, binE, intOp, strOp, shOp, unE, eqpE, eqnE, neqB, ressE, resE, packL, packE, flat1, fcells, fillE, setL, cellsOf_bind, cellsO_own, cellsO_ro, lenE_sl, lenE_nils, lenE_sl0, bound, rep, minE, maxE, List.getElem?_cons_zero, List.getElem?_cons_succ, get_lt, set_lt, get_len, get_len_add, set_len, set_len_add, List.append_assoc, List.cons_append, List.nil_append, slotsG, slotsE, odT, odsT, optT, partsT, okPairs, okPair, changesE, rdAft, rdO, frLt, nmV, nmVL, nmL, nmS, -getElem?_pos, hlt, q2, q3, q4, a1, a2, a3, a4, a5, w1]
        refine WPc.go (move37_ok (Nat.le_refl _) ho ow g (c := 1 + o) (y := d) (n := y) (by omega) (by omega)) ?_
        rintro u h2 ⟨g2, w2, rows2, c1, c2, c3⟩
        have gr2 := g2.gr gr (Nat.le_refl _)
        simp [wpk_skip, wpk_seq, k_cond, wpk_block, wpk_exit, wpk_ret, wpk_loop, k_ops, k_draw0, t_nil, t_cons, KT_eq, KD_eq, wpo_nil, k_cons, k_step, mt_some, mtk_some, KO_eq, KP_eq, K_normal, K_ret, K_exit, KB_normal, KB_ret, KB_exit, KL_normal, KL_ret, KL_exit, k_ret, k_normal, stepE, isCall, calleeE, opE, wantE, odE, odS, odL, odSL, fget, fput, initE, keepF, List.map_cons, List.map_nil, binE, intOp, strOp, shOp, unE, eqpE, eqnE, neqB, ressE, resE, packL, packE, flat1, fcells, fillE, setL, cellsOf_bind, cellsO_own, cellsO_ro, lenE_sl, lenE_nils, lenE_sl0, bound, rep, minE, maxE, List.getElem?_cons_zero, List.getElem?_cons_succ, get_lt, set_lt, get_len, get_len_add, set_len, set_len_add, List.append_assoc, List.cons_append, List.nil_append, slotsG, slotsE, odT, odsT, optT, partsT, okPairs, okPair, changesE, rdAft, rdO, frLt, nmV, nmVL, nmL, nmS, -getElem?_pos, hlt, q2, q3, q4, a1, a2, a3, a4, a5, w1, w3]
        exact ⟨_, by omega, hI _ _ _ ⟨gr2, k + 1, w2, rows2, by omega, rfl, c1, c2, c3, rfl⟩⟩
      · obtain rfl : k = 10 := by omega
        have hlt' : (10 : Int) < l.length := by omega
        simp [wpk_skip, wpk_seq, k_cond, wpk_block, wpk_exit, wpk_ret, wpk_loop, k_ops, k_draw0, t_nil, t_cons, KT_eq, KD_eq, wpo_nil, k_cons, k_step, mt_some, mtk_some, KO_eq, KP_eq, K_normal, K_ret, K_exit, KB_normal, KB_ret, KB_exit, KL_normal, KL_ret, KL_exit, k_ret, k_normal, stepE, isCall, calleeE, opE, wantE, odE, odS, odL, odSL, fget, fput, initE, keepF, List.map_cons, List.map_nil, binE, intOp, strOp, shOp, unE, eqpE, eqnE, neqB, ressE, resE, packL, packE, flat1, fcells, fillE, setL, cellsOf_bind, cellsO_own, cellsO_ro, lenE_sl, lenE_nils, lenE_sl0, bound, rep, minE, maxE, List.getElem?_cons_zero, List.getElem?_cons_succ, get_lt, set_lt, get_len, get_len_add, set_len, set_len_add, List.append_assoc, List.cons_append, List.nil_append, -getElem?_pos, l13_0_1, l13_0, hlt, hlt', rl]
        exact hΦ _ _ _ ⟨rfl, gr, rfl, w, rows, ho, ow, g⟩
    · simp [wpk_skip, wpk_seq, k_cond, wpk_block, wpk_exit, wpk_ret, wpk_loop, k_ops, k_draw0, t_nil, t_cons, KT_eq, KD_eq, wpo_nil, k_cons, k_step, mt_some, mtk_some, KO_eq, KP_eq, K_normal, K_ret, K_exit, KB_normal, KB_ret, KB_exit, KL_normal, KL_ret, KL_exit, k_ret, k_normal, stepE, isCall, calleeE, opE, wantE, odE, odS, odL, odSL, fget, fput, initE, keepF, List.map_cons, List.map_nil, binE, intOp, strOp, shOp, unE, eqpE, eqnE, neqB, ressE, resE, packL, packE, flat1, fcells, fillE, setL, cellsOf_bind, cellsO_own, cellsO_ro, lenE_sl, lenE_nils, lenE_sl0, bound, rep, minE, maxE, List.getElem?_cons_zero, List.getElem?_cons_succ, get_lt, set_lt, get_len, get_len_add, set_len, set_len_add, List.append_assoc, List.cons_append, List.nil_append, -getElem?_pos, l13_0_1, l13_0, hlt, rl]
      exact hΦ _ _ _ ⟨rfl, gr, rfl, w, rows, ho, ow, g⟩
  · rintro x fr' h' ⟨rfl, gr, rfl, w, rows, ho, ow, g⟩
    simp [wpk_skip, wpk_seq, k_cond, wpk_block, wpk_exit, wpk_ret, wpk_loop, k_ops, k_draw0, t_nil, t_cons, KT_eq, KD_eq, wpo_nil, k_cons, k_step, mt_some, mtk_some, KO_eq, KP_eq, K_normal, K_ret, K_exit, KB_normal, KB_ret, KB_exit, KL_normal, KL_ret, KL_exit, k_ret, k_normal, stepE, isCall, calleeE, opE, wantE, odE, odS, odL, odSL, fget, fput, initE, keepF, List.map_cons, List.map_nil, binE, intOp, strOp, shOp, unE, eqpE, eqnE, neqB, ressE, resE, packL, packE, flat1, fcells, fillE, setL, cellsOf_bind, cellsO_own, cellsO_ro, lenE_sl, lenE_nils, lenE_sl0, bound, rep, minE, maxE, List.getElem?_cons_zero, List.getElem?_cons_succ, get_lt, set_lt, get_len, get_len_add, set_len, set_len_add, List.append_assoc, List.cons_append, List.nil_append, -getElem?_pos, ]
    exact hΨ _ _ ⟨gr, _, w, rows, rfl, Nat.le_refl _, ho, ow, g⟩

/-- An amount of a list of one's own, to be written. -/
theorem flatB_set : ∀ (l : List Bu) (k : Nat) (hk : k < l.length) (x : Int), (l.flatMap encB).set (k * 3 + 2) (.int .i64 x) = (l.set k ⟨l[k].c, l[k].y, x⟩).flatMap encB
  | b :: r, 0, _, x => rfl
  | b :: r, k + 1, hk, x => by
    have ih := flatB_set r k (by simpa using hk) x
    have e : (k + 1) * 3 + 2 = k * 3 + 2 + 3 := by omega
    rw [e]
    show (encB b ++ r.flatMap encB).set (k * 3 + 2 + 3) _ = encB b ++ (r.set k _).flatMap encB
    exact congrArg (encB b ++ ·) ih
theorem Ow.amt_at {b : Nat} {h : LH} {v : SV} {l : List Bu} (r : Ow b h 30 encB v l) {k : Nat} (hk : k < l.length) : ∃ j, b ≤ j ∧ v = .sl j 0 0 l.length ∧ h[j]? = some (.own 30 (l.flatMap encB)) ∧ k * 3 + 2 + 1 ≤ (l.flatMap encB).length ∧ ∀ x, Ow b (h.set j (.own 30 ((l.flatMap encB).set (k * 3 + 2) (.int .i64 x)))) 30 encB v (l.set k ⟨l[k].c, l[k].y, x⟩) := by
  rcases r with ⟨rfl, _⟩ | ⟨j, r1, rfl, r3⟩
  · simp at hk
  · refine ⟨j, r1, rfl, r3, ?_, fun x => .inr ⟨j, r1, by simp, ?_⟩⟩
    · rw [flat_len encB_len]; omega
    · rw [get_self (lt_of_some r3), flatB_set l k hk]
theorem rep_int (n : Nat) : List.replicate n (SV.int .i64 0) = (List.replicate n (0 : Int)).flatMap encI := by
  rw [encI_flat, List.map_replicate]
end Go.Proofs.Ytcimcccnhbbncaa.Ev.CE
