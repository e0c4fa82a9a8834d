/- A command of any numbers, on the small machine. -/
import Derived.Test.YtbgfcgmbihhlbaaDoorWsB
set_option linter.unusedSimpArgs false
set_option linter.unusedVariables false
namespace Go.Proofs.YtbgfcgmbihhlbaaDoor.Ev.CW
open Go
open CK (Cm encC fieldsL fieldsB okC cmOf_enc)

def fldL : List ByteArray := [⟨#[63]⟩, ⟨#[74, 89, 82, 80]⟩, ⟨#[73, 74, 82, 89, 80, 70]⟩, ⟨#[73, 65]⟩, ⟨#[73, 65]⟩, ⟨#[73, 67, 89, 65]⟩, ⟨#[73, 67, 89, 68, 90, 65]⟩, ⟨#[73, 82]⟩, ⟨#[73, 82, 89]⟩, ⟨#[73, 80, 65]⟩, ⟨#[73, 75, 65]⟩, ⟨#[73]⟩, ⟨#[73]⟩]
def fldO : LO := .own 9 (fldL.map .str)
theorem fieldsL_out {k : Int} (hk : k < 1 ∨ 13 ≤ k) : fieldsL k = [63] := by
  unfold fieldsL
  rw [if_neg (by omega), if_neg (by omega), if_neg (by omega), if_neg (by omega), if_neg (by omega), if_neg (by omega), if_neg (by omega), if_neg (by omega), if_neg (by omega), if_neg (by omega), if_neg (by omega), if_neg (by omega)]
set_option maxRecDepth 20000 in
theorem refFields_ok (k : Int) (h : LH) : callX C 29 [.s (.int .i64 k)] h = some (.s (.str (fieldsB k)), h ++ [fldO]) := by
  apply callX_wp
  refine WPc.intro (e := e29) rfl (by simp [e29]) ?_
  show WPk C b29 _ _ (KR [.tmp 2] _)
  unfold fldO
  by_cases h1 : k < 1
  · have e : fieldsB k = ⟨#[63]⟩ := by unfold fieldsB; rw [fieldsL_out (.inl h1)]
    simp [wpk_skip, wpk_seq, k_cond, wpk_block, wpk_exit, wpk_ret, wpk_goto, wpk_label, wpk_loop, k_ops, k_draw0, t_nil, t_cons, KT_eq, KD_eq, wpo_nil, k_cons, k_step, mt_some, mtk_some, KO_eq, KP_eq, K_normal, K_ret, K_exit, KB_normal, KB_ret, KB_exit, KL_normal, KL_ret, KL_exit, K_goto, KB_goto, KL_goto, KS_goto, KS_ret, KS_normal, KS_exit, k_ret, k_normal, stepE, isCall, calleeE, opE, wantE, odE, odS, odL, odSL, fget, fput, initE, keepF, List.map_cons, List.map_nil, binE, intOp, strOp, shOp, unE, eqpE, eqnE, neqB, ressE, resE, packL, packE, flat1, fcells, fillE, setL, cellsOf_bind, cellsO_own, cellsO_ro, lenE_sl, lenE_nils, lenE_sl0, bound, rep, minE, maxE, Option.getD_some, Option.getD_none, isKey, nlS, List.getElem?_cons_zero, List.getElem?_cons_succ, get_lt, set_lt, get_len, get_len_add, set_len, set_len_add, List.append_assoc, List.cons_append, List.nil_append, -getElem?_pos, b29, s29_3, s29_2, s29_1, h1, e, fldL]
  by_cases h2 : k ≥ 13
  · have e : fieldsB k = ⟨#[63]⟩ := by unfold fieldsB; rw [fieldsL_out (.inr h2)]
    have h2' : 13 ≤ k := h2
    simp [wpk_skip, wpk_seq, k_cond, wpk_block, wpk_exit, wpk_ret, wpk_goto, wpk_label, wpk_loop, k_ops, k_draw0, t_nil, t_cons, KT_eq, KD_eq, wpo_nil, k_cons, k_step, mt_some, mtk_some, KO_eq, KP_eq, K_normal, K_ret, K_exit, KB_normal, KB_ret, KB_exit, KL_normal, KL_ret, KL_exit, K_goto, KB_goto, KL_goto, KS_goto, KS_ret, KS_normal, KS_exit, k_ret, k_normal, stepE, isCall, calleeE, opE, wantE, odE, odS, odL, odSL, fget, fput, initE, keepF, List.map_cons, List.map_nil, binE, intOp, strOp, shOp, unE, eqpE, eqnE, neqB, ressE, resE, packL, packE, flat1, fcells, fillE, setL, cellsOf_bind, cellsO_own, cellsO_ro, lenE_sl, lenE_nils, lenE_sl0, bound, rep, minE, maxE, Option.getD_some, Option.getD_none, isKey, nlS, List.getElem?_cons_zero, List.getElem?_cons_succ, get_lt, set_lt, get_len, get_len_add, set_len, set_len_add, List.append_assoc, List.cons_append, List.nil_append, -getElem?_pos, b29, s29_3, s29_2, s29_1, h1, h2, h2', e, fldL]
  have hk : k = 1 ∨ k = 2 ∨ k = 3 ∨ k = 4 ∨ k = 5 ∨ k = 6 ∨ k = 7 ∨ k = 8 ∨ k = 9 ∨ k = 10 ∨ k = 11 ∨ k = 12 := by omega
  rcases hk with rfl | rfl | rfl | rfl | rfl | rfl | rfl | rfl | rfl | rfl | rfl | rfl <;> (simp [wpk_skip, wpk_seq, k_cond, wpk_block, wpk_exit, wpk_ret, wpk_goto, wpk_label, wpk_loop, k_ops, k_draw0, t_nil, t_cons, KT_eq, KD_eq, wpo_nil, k_cons, k_step, mt_some, mtk_some, KO_eq, KP_eq, K_normal, K_ret, K_exit, KB_normal, KB_ret, KB_exit, KL_normal, KL_ret, KL_exit, K_goto, KB_goto, KL_goto, KS_goto, KS_ret, KS_normal, KS_exit, k_ret, k_normal, stepE, isCall, calleeE, opE, wantE, odE, odS, odL, odSL, fget, fput, initE, keepF, List.map_cons, List.map_nil, binE, intOp, strOp, shOp, unE, eqpE, eqnE, neqB, ressE, resE, packL, packE, flat1, fcells, fillE, setL, cellsOf_bind, cellsO_own, cellsO_ro, lenE_sl, lenE_nils, lenE_sl0, bound, rep, minE, maxE, Option.getD_some, Option.getD_none, isKey, nlS, List.getElem?_cons_zero, List.getElem?_cons_succ, get_lt, set_lt, get_len, get_len_add, set_len, set_len_add, List.append_assoc, List.cons_append, List.nil_append, -getElem?_pos, b29, s29_3, s29_2, s29_1, fldL]; try rfl)

theorem fieldsL_all (k : Int) : ∀ b ∈ fieldsL k, b = 63 ∨ b = 73 ∨ b = 75 ∨ b = 74 ∨ b = 67 ∨ b = 68 ∨ b = 89 ∨ b = 90 ∨ b = 80 ∨ b = 65 ∨ b = 82 ∨ b = 70 := by
  have h : (fieldsL k).all (fun b => b == 63 || b == 73 || b == 75 || b == 74 || b == 67 || b == 68 || b == 89 || b == 90 || b == 80 || b == 65 || b == 82 || b == 70) = true := by
    unfold fieldsL
    repeat' split
    all_goals rfl
  intro b hb
  have := List.all_eq_true.1 h b hb
  simpa [or_assoc] using this

set_option maxRecDepth 20000 in
set_option maxHeartbeats 8000000 in
theorem raw_ok (c : Cm) (hc : W64 c) (how : Int) (h : LH) : WPc C 28 [.agg (encC c), .s (.int .i64 how)] h fun u h' => Gr h h' ∧ ∃ m, u = .agg (encC m) ∧ W64 m := by
  refine WPc.post fun Ψ hΨ => ?_
  refine WPc.intro (e := e28) rfl (by simp [e28]) ?_
  show WPk C b28 _ _ (KR [.cell 4 true 12] _)
  have s64 : ∀ {z : Int}, -10000000000000 ≤ z ∧ z ≤ 10000000000000 → is64 z := fun h => by unfold is64; omega
  have z64 : is64 0 := by unfold is64; decide
  obtain ⟨k1, k2, k3, k4, k5, k6, k7, k8, k9⟩ := hc
  have wk := fun h => within_ok c.k 12 (by omega) h
  have uk := within_64 c.k 12 (by omega)
  generalize c.k % 12 = kk at *
  have q1 : IntKind.i64.wrap (1 + kk) = 1 + kk := wrap_small (by omega) (by omega)
  have wh := fun h => within_ok how 24 (by omega) h
  have uh := within_64 how 24 (by omega)
  generalize how % 24 = hh at *
  have el : (encC c).length = 12 := rfl
  have e0 : (encC c)[0]? = some (.int .i64 c.k) := rfl
  have e1 : (encC c)[1]? = some (.str c.a) := rfl
  have e2 : (encC c)[2]? = some (.str c.b) := rfl
  have e3 : (encC c)[3]? = some (.str c.j) := rfl
  have e4 : (encC c)[4]? = some (.int .i64 c.c) := rfl
  have e5 : (encC c)[5]? = some (.int .i64 c.d) := rfl
  have e6 : (encC c)[6]? = some (.int .i64 c.y) := rfl
  have e7 : (encC c)[7]? = some (.int .i64 c.z) := rfl
  have e8 : (encC c)[8]? = some (.int .i64 c.p) := rfl
  have e9 : (encC c)[9]? = some (.int .i64 c.n) := rfl
  have e10 : (encC c)[10]? = some (.int .i64 c.r) := rfl
  have e11 : (encC c)[11]? = some (.int .i64 c.x) := rfl
  have z0 : encC (zeroC 0) = [.int .i64 0, .str ⟨#[]⟩, .str ⟨#[]⟩, .str ⟨#[]⟩, .int .i64 0, .int .i64 0, .int .i64 0, .int .i64 0, .int .i64 0, .int .i64 0, .int .i64 0, .int .i64 0] := rfl
  have z1 : encC (zeroC (1 + kk)) = [.int .i64 (1 + kk), .str ⟨#[]⟩, .str ⟨#[]⟩, .str ⟨#[]⟩, .int .i64 0, .int .i64 0, .int .i64 0, .int .i64 0, .int .i64 0, .int .i64 0, .int .i64 0, .int .i64 0] := rfl
  simp [wpk_skip, wpk_seq, k_cond, wpk_block, wpk_exit, wpk_ret, wpk_goto, wpk_label, wpk_loop, k_ops, k_draw0, t_nil, t_cons, KT_eq, KD_eq, wpo_nil, k_cons, k_step, mt_some, mtk_some, KO_eq, KP_eq, K_normal, K_ret, K_exit, KB_normal, KB_ret, KB_exit, KL_normal, KL_ret, KL_exit, K_goto, KB_goto, KL_goto, KS_goto, KS_ret, KS_normal, KS_exit, k_ret, k_normal, stepE, isCall, calleeE, opE, wantE, odE, odS, odL, odSL, fget, fput, initE, keepF, List.map_cons, List.map_nil, binE, intOp, strOp, shOp, unE, eqpE, eqnE, neqB, ressE, resE, packL, packE, flat1, fcells, fillE, setL, cellsOf_bind, cellsO_own, cellsO_ro, lenE_sl, lenE_nils, lenE_sl0, bound, rep, minE, maxE, Option.getD_some, Option.getD_none, isKey, nlS, List.getElem?_cons_zero, List.getElem?_cons_succ, get_lt, set_lt, get_len, get_len_add, set_len, set_len_add, List.append_assoc, List.cons_append, List.nil_append, -getElem?_pos, b28, s28_5, s28_4, s28_3, s28_2, s28_1, el, e0, wk, q1, refFields_ok]
  refine WPl.post (fun x fr' h' => x = .exit 0 ∧ Gr h h' ∧ h'[h.length]? = some (.own 23 (encC c)) ∧ h'[h.length + 1]? = some (.own 23 (encC (zeroC 0))) ∧ (∃ m, h'[h.length + 3]? = some (.own 23 (encC m)) ∧ W64 m) ∧
    fr' = [(1, some (.s (.int .i64 how))), (2, some (.s (.ptr h.length 0))), (4, some (.s (.ptr (h.length + 1) 0))), (6, some (.s (.ptr (h.length + 3) 0)))]) (fun Φ hΦ => ?_) ?_
  · refine WPl.inv2 (fun n fr h' => Gr h h' ∧ h'[h.length]? = some (.own 23 (encC c)) ∧ h'[h.length + 1]? = some (.own 23 (encC (zeroC 0))) ∧ (∃ m, h'[h.length + 3]? = some (.own 23 (encC m)) ∧ W64 m) ∧ ∃ j : Nat, j ≤ (fieldsL (1 + kk)).length ∧ n = (fieldsL (1 + kk)).length - j ∧
      fr = [(1, some (.s (.int .i64 how))), (2, some (.s (.ptr h.length 0))), (4, some (.s (.ptr (h.length + 1) 0))), (5, some (.s (.str (fieldsB (1 + kk))))), (6, some (.s (.ptr (h.length + 3) 0))), (7, some (.s (.int .i64 j)))]) ?_ _ _ _
      ⟨Gr.self _ _, get_len, get_len_add, ⟨zeroC (1 + kk), get_len_add, s64 (by simp only [zeroC]; omega), z64, z64, z64, z64, z64, z64, z64, z64, nil_sz, nil_sz, nil_sz⟩, 0, Nat.zero_le _, rfl, by simp⟩
    rintro I hI n fr h' ⟨gr, o2, o4, ⟨m, o6, hm⟩, j, hj, rfl, rfl⟩
    refine ⟨by simp [keepF, fget], ?_⟩
    have fsz : (fieldsB (1 + kk)).size = (fieldsL (1 + kk)).length := by unfold fieldsB ByteArray.size; simp
    have w3 : IntKind.i64.wrap ((j : Int) + 1) = ((j + 1 : Nat) : Int) := by have := fields_len (1 + kk); exact wrap_small (by omega) (by omega)
    have hl6 := lt_of_some o6
    by_cases hlt : j < (fieldsL (1 + kk)).length
    · obtain ⟨b, hb⟩ : ∃ b, (fieldsL (1 + kk))[j]? = some b := ⟨_, List.getElem?_eq_getElem hlt⟩
      have hb' : (fieldsB (1 + kk)).data.toList[j]? = some b := by rw [fields_data]; exact hb
      have ha := fieldsL_all (1 + kk) b (List.mem_of_getElem? hb)
      have fin : ∀ (m' : Cm) (r : LH) , W64 m' → ∃ n', n' < (fieldsL (1 + kk)).length - j ∧ I n' [(1, some (.s (.int .i64 how))), (2, some (.s (.ptr h.length 0))), (4, some (.s (.ptr (h.length + 1) 0))), (5, some (.s (.str (fieldsB (1 + kk))))), (6, some (.s (.ptr (h.length + 3) 0))), (7, some (.s (.int .i64 (j + 1 : Nat))))] (h'.set (h.length + 3) (.own 23 (encC m')) ++ r) := by
        intro m' r hm'
        refine ⟨(fieldsL (1 + kk)).length - (j + 1), by omega, hI _ _ _ ⟨(gr.set _ (by omega)).app _, ?_, ?_, ⟨m', ?_, hm'⟩, j + 1, hlt, rfl, rfl⟩⟩
        · rw [get_lt (by rw [List.length_set]; omega), get_ne (by omega)]; exact o2
        · rw [get_lt (by rw [List.length_set]; omega), get_ne (by omega)]; exact o4
        · rw [get_lt (by rw [List.length_set]; omega)]; exact get_self hl6
      have fin0 := fun (m' : Cm) hm' => by
        have := fin m' [] hm'
        rwa [List.append_nil] at this
      obtain ⟨mk, ma, mb, mj, mc, md, my, mz, mp, mn, mr, mx⟩ := m
      obtain ⟨g1, g2, g3, g4, g5, g6, g7, g8, g9⟩ := hm
      have ml : (encC ⟨mk, ma, mb, mj, mc, md, my, mz, mp, mn, mr, mx⟩).length = 12 := rfl
      rcases ha with rfl | rfl | rfl | rfl | rfl | rfl | rfl | rfl | rfl | rfl | rfl | rfl
      · simp [wpk_skip, wpk_seq, k_cond, wpk_block, wpk_exit, wpk_ret, wpk_goto, wpk_label, wpk_loop, k_ops, k_draw0, t_nil, t_cons, KT_eq, KD_eq, wpo_nil, k_cons, k_step, mt_some, mtk_some, KO_eq, KP_eq, K_normal, K_ret, K_exit, KB_normal, KB_ret, KB_exit, KL_normal, KL_ret, KL_exit, K_goto, KB_goto, KL_goto, KS_goto, KS_ret, KS_normal, KS_exit, k_ret, k_normal, stepE, isCall, calleeE, opE, wantE, odE, odS, odL, odSL, fget, fput, initE, keepF, List.map_cons, List.map_nil, binE, intOp, strOp, shOp, unE, eqpE, eqnE, neqB, ressE, resE, packL, packE, flat1, fcells, fillE, setL, cellsOf_bind, cellsO_own, cellsO_ro, lenE_sl, lenE_nils, lenE_sl0, bound, rep, minE, maxE, Option.getD_some, Option.getD_none, isKey, nlS, List.getElem?_cons_zero, List.getElem?_cons_succ, get_lt, set_lt, get_len, get_len_add, set_len, set_len_add, List.append_assoc, List.cons_append, List.nil_append, -getElem?_pos, l28_0_1, l28_0, fsz, hlt, hb', o2, o6, ml, e1, e2, e3, e4, e5, e6, e7, e8, e9, e10, e11, id_ok, w3, hl6, set_lt, get_self hl6]
        exact fin0 ⟨mk, ma, mb, mj, mc, md, my, mz, mp, mn, mr, c.x⟩ ⟨g1, g2, g3, g4, g5, g6, g7, g8, k9.1, g9.2⟩
      · simp [wpk_skip, wpk_seq, k_cond, wpk_block, wpk_exit, wpk_ret, wpk_goto, wpk_label, wpk_loop, k_ops, k_draw0, t_nil, t_cons, KT_eq, KD_eq, wpo_nil, k_cons, k_step, mt_some, mtk_some, KO_eq, KP_eq, K_normal, K_ret, K_exit, KB_normal, KB_ret, KB_exit, KL_normal, KL_ret, KL_exit, K_goto, KB_goto, KL_goto, KS_goto, KS_ret, KS_normal, KS_exit, k_ret, k_normal, stepE, isCall, calleeE, opE, wantE, odE, odS, odL, odSL, fget, fput, initE, keepF, List.map_cons, List.map_nil, binE, intOp, strOp, shOp, unE, eqpE, eqnE, neqB, ressE, resE, packL, packE, flat1, fcells, fillE, setL, cellsOf_bind, cellsO_own, cellsO_ro, lenE_sl, lenE_nils, lenE_sl0, bound, rep, minE, maxE, Option.getD_some, Option.getD_none, isKey, nlS, List.getElem?_cons_zero, List.getElem?_cons_succ, get_lt, set_lt, get_len, get_len_add, set_len, set_len_add, List.append_assoc, List.cons_append, List.nil_append, -getElem?_pos, l28_0_1, l28_0, fsz, hlt, hb', o2, o6, ml, e1, e2, e3, e4, e5, e6, e7, e8, e9, e10, e11, id_ok, w3, hl6, set_lt, get_self hl6]
        exact fin ⟨mk, idB c.a.size, mb, mj, mc, md, my, mz, mp, mn, mr, mx⟩ [idO] ⟨g1, g2, g3, g4, g5, g6, g7, g8, g9.1, idB_sz _, g9.2.2⟩
      · simp [wpk_skip, wpk_seq, k_cond, wpk_block, wpk_exit, wpk_ret, wpk_goto, wpk_label, wpk_loop, k_ops, k_draw0, t_nil, t_cons, KT_eq, KD_eq, wpo_nil, k_cons, k_step, mt_some, mtk_some, KO_eq, KP_eq, K_normal, K_ret, K_exit, KB_normal, KB_ret, KB_exit, KL_normal, KL_ret, KL_exit, K_goto, KB_goto, KL_goto, KS_goto, KS_ret, KS_normal, KS_exit, k_ret, k_normal, stepE, isCall, calleeE, opE, wantE, odE, odS, odL, odSL, fget, fput, initE, keepF, List.map_cons, List.map_nil, binE, intOp, strOp, shOp, unE, eqpE, eqnE, neqB, ressE, resE, packL, packE, flat1, fcells, fillE, setL, cellsOf_bind, cellsO_own, cellsO_ro, lenE_sl, lenE_nils, lenE_sl0, bound, rep, minE, maxE, Option.getD_some, Option.getD_none, isKey, nlS, List.getElem?_cons_zero, List.getElem?_cons_succ, get_lt, set_lt, get_len, get_len_add, set_len, set_len_add, List.append_assoc, List.cons_append, List.nil_append, -getElem?_pos, l28_0_1, l28_0, fsz, hlt, hb', o2, o6, ml, e1, e2, e3, e4, e5, e6, e7, e8, e9, e10, e11, id_ok, w3, hl6, set_lt, get_self hl6]
        exact fin ⟨mk, ma, idB c.b.size, mj, mc, md, my, mz, mp, mn, mr, mx⟩ [idO] ⟨g1, g2, g3, g4, g5, g6, g7, g8, g9.1, g9.2.1, idB_sz _, g9.2.2.2⟩
      · simp [wpk_skip, wpk_seq, k_cond, wpk_block, wpk_exit, wpk_ret, wpk_goto, wpk_label, wpk_loop, k_ops, k_draw0, t_nil, t_cons, KT_eq, KD_eq, wpo_nil, k_cons, k_step, mt_some, mtk_some, KO_eq, KP_eq, K_normal, K_ret, K_exit, KB_normal, KB_ret, KB_exit, KL_normal, KL_ret, KL_exit, K_goto, KB_goto, KL_goto, KS_goto, KS_ret, KS_normal, KS_exit, k_ret, k_normal, stepE, isCall, calleeE, opE, wantE, odE, odS, odL, odSL, fget, fput, initE, keepF, List.map_cons, List.map_nil, binE, intOp, strOp, shOp, unE, eqpE, eqnE, neqB, ressE, resE, packL, packE, flat1, fcells, fillE, setL, cellsOf_bind, cellsO_own, cellsO_ro, lenE_sl, lenE_nils, lenE_sl0, bound, rep, minE, maxE, Option.getD_some, Option.getD_none, isKey, nlS, List.getElem?_cons_zero, List.getElem?_cons_succ, get_lt, set_lt, get_len, get_len_add, set_len, set_len_add, List.append_assoc, List.cons_append, List.nil_append, -getElem?_pos, l28_0_1, l28_0, fsz, hlt, hb', o2, o6, ml, e1, e2, e3, e4, e5, e6, e7, e8, e9, e10, e11, id_ok, w3, hl6, set_lt, get_self hl6]
        exact fin ⟨mk, ma, mb, idB c.j.size, mc, md, my, mz, mp, mn, mr, mx⟩ [idO] ⟨g1, g2, g3, g4, g5, g6, g7, g8, g9.1, g9.2.1, g9.2.2.1, idB_sz _⟩
      · simp [wpk_skip, wpk_seq, k_cond, wpk_block, wpk_exit, wpk_ret, wpk_goto, wpk_label, wpk_loop, k_ops, k_draw0, t_nil, t_cons, KT_eq, KD_eq, wpo_nil, k_cons, k_step, mt_some, mtk_some, KO_eq, KP_eq, K_normal, K_ret, K_exit, KB_normal, KB_ret, KB_exit, KL_normal, KL_ret, KL_exit, K_goto, KB_goto, KL_goto, KS_goto, KS_ret, KS_normal, KS_exit, k_ret, k_normal, stepE, isCall, calleeE, opE, wantE, odE, odS, odL, odSL, fget, fput, initE, keepF, List.map_cons, List.map_nil, binE, intOp, strOp, shOp, unE, eqpE, eqnE, neqB, ressE, resE, packL, packE, flat1, fcells, fillE, setL, cellsOf_bind, cellsO_own, cellsO_ro, lenE_sl, lenE_nils, lenE_sl0, bound, rep, minE, maxE, Option.getD_some, Option.getD_none, isKey, nlS, List.getElem?_cons_zero, List.getElem?_cons_succ, get_lt, set_lt, get_len, get_len_add, set_len, set_len_add, List.append_assoc, List.cons_append, List.nil_append, -getElem?_pos, l28_0_1, l28_0, fsz, hlt, hb', o2, o6, ml, e1, e2, e3, e4, e5, e6, e7, e8, e9, e10, e11, id_ok, w3, hl6, set_lt, get_self hl6]
        exact fin0 ⟨mk, ma, mb, mj, c.c, md, my, mz, mp, mn, mr, mx⟩ ⟨g1, k2, g3, g4, g5, g6, g7, g8, g9⟩
      · simp [wpk_skip, wpk_seq, k_cond, wpk_block, wpk_exit, wpk_ret, wpk_goto, wpk_label, wpk_loop, k_ops, k_draw0, t_nil, t_cons, KT_eq, KD_eq, wpo_nil, k_cons, k_step, mt_some, mtk_some, KO_eq, KP_eq, K_normal, K_ret, K_exit, KB_normal, KB_ret, KB_exit, KL_normal, KL_ret, KL_exit, K_goto, KB_goto, KL_goto, KS_goto, KS_ret, KS_normal, KS_exit, k_ret, k_normal, stepE, isCall, calleeE, opE, wantE, odE, odS, odL, odSL, fget, fput, initE, keepF, List.map_cons, List.map_nil, binE, intOp, strOp, shOp, unE, eqpE, eqnE, neqB, ressE, resE, packL, packE, flat1, fcells, fillE, setL, cellsOf_bind, cellsO_own, cellsO_ro, lenE_sl, lenE_nils, lenE_sl0, bound, rep, minE, maxE, Option.getD_some, Option.getD_none, isKey, nlS, List.getElem?_cons_zero, List.getElem?_cons_succ, get_lt, set_lt, get_len, get_len_add, set_len, set_len_add, List.append_assoc, List.cons_append, List.nil_append, -getElem?_pos, l28_0_1, l28_0, fsz, hlt, hb', o2, o6, ml, e1, e2, e3, e4, e5, e6, e7, e8, e9, e10, e11, id_ok, w3, hl6, set_lt, get_self hl6]
        exact fin0 ⟨mk, ma, mb, mj, mc, c.d, my, mz, mp, mn, mr, mx⟩ ⟨g1, g2, k3, g4, g5, g6, g7, g8, g9⟩
      · simp [wpk_skip, wpk_seq, k_cond, wpk_block, wpk_exit, wpk_ret, wpk_goto, wpk_label, wpk_loop, k_ops, k_draw0, t_nil, t_cons, KT_eq, KD_eq, wpo_nil, k_cons, k_step, mt_some, mtk_some, KO_eq, KP_eq, K_normal, K_ret, K_exit, KB_normal, KB_ret, KB_exit, KL_normal, KL_ret, KL_exit, K_goto, KB_goto, KL_goto, KS_goto, KS_ret, KS_normal, KS_exit, k_ret, k_normal, stepE, isCall, calleeE, opE, wantE, odE, odS, odL, odSL, fget, fput, initE, keepF, List.map_cons, List.map_nil, binE, intOp, strOp, shOp, unE, eqpE, eqnE, neqB, ressE, resE, packL, packE, flat1, fcells, fillE, setL, cellsOf_bind, cellsO_own, cellsO_ro, lenE_sl, lenE_nils, lenE_sl0, bound, rep, minE, maxE, Option.getD_some, Option.getD_none, isKey, nlS, List.getElem?_cons_zero, List.getElem?_cons_succ, get_lt, set_lt, get_len, get_len_add, set_len, set_len_add, List.append_assoc, List.cons_append, List.nil_append, -getElem?_pos, l28_0_1, l28_0, fsz, hlt, hb', o2, o6, ml, e1, e2, e3, e4, e5, e6, e7, e8, e9, e10, e11, id_ok, w3, hl6, set_lt, get_self hl6]
        exact fin0 ⟨mk, ma, mb, mj, mc, md, c.y, mz, mp, mn, mr, mx⟩ ⟨g1, g2, g3, k4, g5, g6, g7, g8, g9⟩
      · simp [wpk_skip, wpk_seq, k_cond, wpk_block, wpk_exit, wpk_ret, wpk_goto, wpk_label, wpk_loop, k_ops, k_draw0, t_nil, t_cons, KT_eq, KD_eq, wpo_nil, k_cons, k_step, mt_some, mtk_some, KO_eq, KP_eq, K_normal, K_ret, K_exit, KB_normal, KB_ret, KB_exit, KL_normal, KL_ret, KL_exit, K_goto, KB_goto, KL_goto, KS_goto, KS_ret, KS_normal, KS_exit, k_ret, k_normal, stepE, isCall, calleeE, opE, wantE, odE, odS, odL, odSL, fget, fput, initE, keepF, List.map_cons, List.map_nil, binE, intOp, strOp, shOp, unE, eqpE, eqnE, neqB, ressE, resE, packL, packE, flat1, fcells, fillE, setL, cellsOf_bind, cellsO_own, cellsO_ro, lenE_sl, lenE_nils, lenE_sl0, bound, rep, minE, maxE, Option.getD_some, Option.getD_none, isKey, nlS, List.getElem?_cons_zero, List.getElem?_cons_succ, get_lt, set_lt, get_len, get_len_add, set_len, set_len_add, List.append_assoc, List.cons_append, List.nil_append, -getElem?_pos, l28_0_1, l28_0, fsz, hlt, hb', o2, o6, ml, e1, e2, e3, e4, e5, e6, e7, e8, e9, e10, e11, id_ok, w3, hl6, set_lt, get_self hl6]
        exact fin0 ⟨mk, ma, mb, mj, mc, md, my, c.z, mp, mn, mr, mx⟩ ⟨g1, g2, g3, g4, k5, g6, g7, g8, g9⟩
      · simp [wpk_skip, wpk_seq, k_cond, wpk_block, wpk_exit, wpk_ret, wpk_goto, wpk_label, wpk_loop, k_ops, k_draw0, t_nil, t_cons, KT_eq, KD_eq, wpo_nil, k_cons, k_step, mt_some, mtk_some, KO_eq, KP_eq, K_normal, K_ret, K_exit, KB_normal, KB_ret, KB_exit, KL_normal, KL_ret, KL_exit, K_goto, KB_goto, KL_goto, KS_goto, KS_ret, KS_normal, KS_exit, k_ret, k_normal, stepE, isCall, calleeE, opE, wantE, odE, odS, odL, odSL, fget, fput, initE, keepF, List.map_cons, List.map_nil, binE, intOp, strOp, shOp, unE, eqpE, eqnE, neqB, ressE, resE, packL, packE, flat1, fcells, fillE, setL, cellsOf_bind, cellsO_own, cellsO_ro, lenE_sl, lenE_nils, lenE_sl0, bound, rep, minE, maxE, Option.getD_some, Option.getD_none, isKey, nlS, List.getElem?_cons_zero, List.getElem?_cons_succ, get_lt, set_lt, get_len, get_len_add, set_len, set_len_add, List.append_assoc, List.cons_append, List.nil_append, -getElem?_pos, l28_0_1, l28_0, fsz, hlt, hb', o2, o6, ml, e1, e2, e3, e4, e5, e6, e7, e8, e9, e10, e11, id_ok, w3, hl6, set_lt, get_self hl6]
        exact fin0 ⟨mk, ma, mb, mj, mc, md, my, mz, c.p, mn, mr, mx⟩ ⟨g1, g2, g3, g4, g5, k6, g7, g8, g9⟩
      · simp [wpk_skip, wpk_seq, k_cond, wpk_block, wpk_exit, wpk_ret, wpk_goto, wpk_label, wpk_loop, k_ops, k_draw0, t_nil, t_cons, KT_eq, KD_eq, wpo_nil, k_cons, k_step, mt_some, mtk_some, KO_eq, KP_eq, K_normal, K_ret, K_exit, KB_normal, KB_ret, KB_exit, KL_normal, KL_ret, KL_exit, K_goto, KB_goto, KL_goto, KS_goto, KS_ret, KS_normal, KS_exit, k_ret, k_normal, stepE, isCall, calleeE, opE, wantE, odE, odS, odL, odSL, fget, fput, initE, keepF, List.map_cons, List.map_nil, binE, intOp, strOp, shOp, unE, eqpE, eqnE, neqB, ressE, resE, packL, packE, flat1, fcells, fillE, setL, cellsOf_bind, cellsO_own, cellsO_ro, lenE_sl, lenE_nils, lenE_sl0, bound, rep, minE, maxE, Option.getD_some, Option.getD_none, isKey, nlS, List.getElem?_cons_zero, List.getElem?_cons_succ, get_lt, set_lt, get_len, get_len_add, set_len, set_len_add, List.append_assoc, List.cons_append, List.nil_append, -getElem?_pos, l28_0_1, l28_0, fsz, hlt, hb', o2, o6, ml, e1, e2, e3, e4, e5, e6, e7, e8, e9, e10, e11, id_ok, w3, hl6, set_lt, get_self hl6]
        exact fin0 ⟨mk, ma, mb, mj, mc, md, my, mz, mp, c.n, mr, mx⟩ ⟨g1, g2, g3, g4, g5, g6, k7, g8, g9⟩
      · simp [wpk_skip, wpk_seq, k_cond, wpk_block, wpk_exit, wpk_ret, wpk_goto, wpk_label, wpk_loop, k_ops, k_draw0, t_nil, t_cons, KT_eq, KD_eq, wpo_nil, k_cons, k_step, mt_some, mtk_some, KO_eq, KP_eq, K_normal, K_ret, K_exit, KB_normal, KB_ret, KB_exit, KL_normal, KL_ret, KL_exit, K_goto, KB_goto, KL_goto, KS_goto, KS_ret, KS_normal, KS_exit, k_ret, k_normal, stepE, isCall, calleeE, opE, wantE, odE, odS, odL, odSL, fget, fput, initE, keepF, List.map_cons, List.map_nil, binE, intOp, strOp, shOp, unE, eqpE, eqnE, neqB, ressE, resE, packL, packE, flat1, fcells, fillE, setL, cellsOf_bind, cellsO_own, cellsO_ro, lenE_sl, lenE_nils, lenE_sl0, bound, rep, minE, maxE, Option.getD_some, Option.getD_none, isKey, nlS, List.getElem?_cons_zero, List.getElem?_cons_succ, get_lt, set_lt, get_len, get_len_add, set_len, set_len_add, List.append_assoc, List.cons_append, List.nil_append, -getElem?_pos, l28_0_1, l28_0, fsz, hlt, hb', o2, o6, ml, e1, e2, e3, e4, e5, e6, e7, e8, e9, e10, e11, id_ok, w3, hl6, set_lt, get_self hl6]
        exact fin0 ⟨mk, ma, mb, mj, mc, md, my, mz, mp, mn, c.r, mx⟩ ⟨g1, g2, g3, g4, g5, g6, g7, k8, g9⟩
      · simp [wpk_skip, wpk_seq, k_cond, wpk_block, wpk_exit, wpk_ret, wpk_goto, wpk_label, wpk_loop, k_ops, k_draw0, t_nil, t_cons, KT_eq, KD_eq, wpo_nil, k_cons, k_step, mt_some, mtk_some, KO_eq, KP_eq, K_normal, K_ret, K_exit, KB_normal, KB_ret, KB_exit, KL_normal, KL_ret, KL_exit, K_goto, KB_goto, KL_goto, KS_goto, KS_ret, KS_normal, KS_exit, k_ret, k_normal, stepE, isCall, calleeE, opE, wantE, odE, odS, odL, odSL, fget, fput, initE, keepF, List.map_cons, List.map_nil, binE, intOp, strOp, shOp, unE, eqpE, eqnE, neqB, ressE, resE, packL, packE, flat1, fcells, fillE, setL, cellsOf_bind, cellsO_own, cellsO_ro, lenE_sl, lenE_nils, lenE_sl0, bound, rep, minE, maxE, Option.getD_some, Option.getD_none, isKey, nlS, List.getElem?_cons_zero, List.getElem?_cons_succ, get_lt, set_lt, get_len, get_len_add, set_len, set_len_add, List.append_assoc, List.cons_append, List.nil_append, -getElem?_pos, l28_0_1, l28_0, fsz, hlt, hb', o2, o6, ml, e1, e2, e3, e4, e5, e6, e7, e8, e9, e10, e11, id_ok, w3, hl6, set_lt, get_self hl6]
        exact fin0 ⟨mk, ma, mb, mj, mc, md, my, mz, mp, mn, mr, c.x⟩ ⟨g1, g2, g3, g4, g5, g6, g7, g8, k9.1, g9.2⟩
    · obtain rfl : j = (fieldsL (1 + kk)).length := by omega
      simp [wpk_skip, wpk_seq, k_cond, wpk_block, wpk_exit, wpk_ret, wpk_goto, wpk_label, wpk_loop, k_ops, k_draw0, t_nil, t_cons, KT_eq, KD_eq, wpo_nil, k_cons, k_step, mt_some, mtk_some, KO_eq, KP_eq, K_normal, K_ret, K_exit, KB_normal, KB_ret, KB_exit, KL_normal, KL_ret, KL_exit, K_goto, KB_goto, KL_goto, KS_goto, KS_ret, KS_normal, KS_exit, k_ret, k_normal, stepE, isCall, calleeE, opE, wantE, odE, odS, odL, odSL, fget, fput, initE, keepF, List.map_cons, List.map_nil, binE, intOp, strOp, shOp, unE, eqpE, eqnE, neqB, ressE, resE, packL, packE, flat1, fcells, fillE, setL, cellsOf_bind, cellsO_own, cellsO_ro, lenE_sl, lenE_nils, lenE_sl0, bound, rep, minE, maxE, Option.getD_some, Option.getD_none, isKey, nlS, List.getElem?_cons_zero, List.getElem?_cons_succ, get_lt, set_lt, get_len, get_len_add, set_len, set_len_add, List.append_assoc, List.cons_append, List.nil_append, -getElem?_pos, l28_0_1, l28_0, fsz]
      exact hΦ _ _ _ ⟨rfl, gr, o2, o4, ⟨m, o6, hm⟩, rfl⟩
  · rintro x fr' h' ⟨rfl, gr, o2, o4, ⟨m, o6, hm⟩, rfl⟩
    obtain ⟨mk, ma, mb, mj, mc, md, my, mz, mp, mn, mr, mx⟩ := m
    obtain ⟨g1, g2, g3, g4, g5, g6, g7, g8, g9⟩ := hm
    have ml : (encC ⟨mk, ma, mb, mj, mc, md, my, mz, mp, mn, mr, mx⟩).length = 12 := rfl
    have zl : (encC (zeroC 0)).length = 12 := rfl
    have hl6 := lt_of_some o6
    have hl4 := lt_of_some o4
    have ta : ∀ h, callX C 49 [.s (.str c.a), .s (.int .i64 10)] h = some (.s (.str (textF c.a 10)), h) := fun h => textK_ok c.a 10 h
    have tj : ∀ h, callX C 49 [.s (.str c.j), .s (.int .i64 10)] h = some (.s (.str (textF c.j 10)), h) := fun h => textK_ok c.j 10 h
    have tk12 : ∀ m : Cm, (encC m).take 12 = encC m := fun _ => rfl
    have st12 : ∀ m : Cm, setL (encC (zeroC 0)) 0 (encC m) = encC m := fun _ => rfl
    have cl12 : ∀ m : Cm, (encC m).length = 12 := fun _ => rfl
    have fin : ∀ (m' : Cm) (h1 : LH), W64 m' → Gr h h1 → Ψ (.agg (encC m')) (h1.set (h.length + 1) (.own 23 (encC m'))) := fun m' h1 hm g => hΨ _ _ ⟨g.set _ (by omega), m', rfl, hm⟩
    by_cases d1 : hh = 20
    · subst d1
      simp [wpk_skip, wpk_seq, k_cond, wpk_block, wpk_exit, wpk_ret, wpk_goto, wpk_label, wpk_loop, k_ops, k_draw0, t_nil, t_cons, KT_eq, KD_eq, wpo_nil, k_cons, k_step, mt_some, mtk_some, KO_eq, KP_eq, K_normal, K_ret, K_exit, KB_normal, KB_ret, KB_exit, KL_normal, KL_ret, KL_exit, K_goto, KB_goto, KL_goto, KS_goto, KS_ret, KS_normal, KS_exit, k_ret, k_normal, stepE, isCall, calleeE, opE, wantE, odE, odS, odL, odSL, fget, fput, initE, keepF, List.map_cons, List.map_nil, binE, intOp, strOp, shOp, unE, eqpE, eqnE, neqB, ressE, resE, packL, packE, flat1, fcells, fillE, setL, cellsOf_bind, cellsO_own, cellsO_ro, lenE_sl, lenE_nils, lenE_sl0, bound, rep, minE, maxE, Option.getD_some, Option.getD_none, isKey, nlS, List.getElem?_cons_zero, List.getElem?_cons_succ, get_lt, set_lt, get_len, get_len_add, set_len, set_len_add, List.append_assoc, List.cons_append, List.nil_append, -getElem?_pos, b28, s28_5, s28_4, s28_3, s28_2, s28_1, wh, o2, o4, o6, tk12, st12, cl12, get_self hl4]
      exact fin c _ ⟨k1, k2, k3, k4, k5, k6, k7, k8, k9⟩ gr
    have d1' : (hh == 20) = false := by simpa using d1
    have n31 : h.length + 3 ≠ h.length + 1 := by omega
    have step : ∀ (m' : Cm), W64 m' → (h'.set (h.length + 3) (.own 23 (encC m')))[h.length + 3]? = some (.own 23 (encC m')) ∧ (h'.set (h.length + 3) (.own 23 (encC m')))[h.length + 1]? = some (.own 23 (encC (zeroC 0))) ∧ Gr h (h'.set (h.length + 3) (.own 23 (encC m'))) ∧ ∀ x, ((h'.set (h.length + 3) (.own 23 (encC m'))).set (h.length + 1) x)[h.length + 1]? = some x := fun m' _ => ⟨get_self hl6, by rw [get_ne n31]; exact o4, gr.set _ (by omega), fun x => get_self (by rw [List.length_set]; exact hl4)⟩
    by_cases d2 : hh = 21
    · subst d2
      have hm' : W64 ⟨mk, textF c.a 10, mb, mj, mc, md, my, mz, mp, mn, mr, mx⟩ := ⟨g1, g2, g3, g4, g5, g6, g7, g8, g9.1, textF_sz _ (by decide), g9.2.2⟩
      obtain ⟨p1, p2, p3, p4⟩ := step _ hm'
      have es : (encC ⟨mk, ma, mb, mj, mc, md, my, mz, mp, mn, mr, mx⟩).set 1 (.str (textF c.a 10)) = encC ⟨mk, textF c.a 10, mb, mj, mc, md, my, mz, mp, mn, mr, mx⟩ := rfl
      simp [wpk_skip, wpk_seq, k_cond, wpk_block, wpk_exit, wpk_ret, wpk_goto, wpk_label, wpk_loop, k_ops, k_draw0, t_nil, t_cons, KT_eq, KD_eq, wpo_nil, k_cons, k_step, mt_some, mtk_some, KO_eq, KP_eq, K_normal, K_ret, K_exit, KB_normal, KB_ret, KB_exit, KL_normal, KL_ret, KL_exit, K_goto, KB_goto, KL_goto, KS_goto, KS_ret, KS_normal, KS_exit, k_ret, k_normal, stepE, isCall, calleeE, opE, wantE, odE, odS, odL, odSL, fget, fput, initE, keepF, List.map_cons, List.map_nil, binE, intOp, strOp, shOp, unE, eqpE, eqnE, neqB, ressE, resE, packL, packE, flat1, fcells, fillE, setL, cellsOf_bind, cellsO_own, cellsO_ro, lenE_sl, lenE_nils, lenE_sl0, bound, rep, minE, maxE, Option.getD_some, Option.getD_none, isKey, nlS, List.getElem?_cons_zero, List.getElem?_cons_succ, get_lt, set_lt, get_len, get_len_add, set_len, set_len_add, List.append_assoc, List.cons_append, List.nil_append, -getElem?_pos, b28, s28_5, s28_4, s28_3, s28_2, s28_1, wh, o2, o4, o6, tk12, st12, cl12, e1, ta, es, p1, p2, p4]
      exact fin _ _ hm' p3
    have d2' : (hh == 21) = false := by simpa using d2
    by_cases d3 : hh = 22
    · subst d3
      have hm' : W64 ⟨mk, ma, mb, textF c.j 10, mc, md, my, mz, mp, mn, mr, mx⟩ := ⟨g1, g2, g3, g4, g5, g6, g7, g8, g9.1, g9.2.1, g9.2.2.1, textF_sz _ (by decide)⟩
      obtain ⟨p1, p2, p3, p4⟩ := step _ hm'
      have es : (encC ⟨mk, ma, mb, mj, mc, md, my, mz, mp, mn, mr, mx⟩).set 3 (.str (textF c.j 10)) = encC ⟨mk, ma, mb, textF c.j 10, mc, md, my, mz, mp, mn, mr, mx⟩ := rfl
      simp [wpk_skip, wpk_seq, k_cond, wpk_block, wpk_exit, wpk_ret, wpk_goto, wpk_label, wpk_loop, k_ops, k_draw0, t_nil, t_cons, KT_eq, KD_eq, wpo_nil, k_cons, k_step, mt_some, mtk_some, KO_eq, KP_eq, K_normal, K_ret, K_exit, KB_normal, KB_ret, KB_exit, KL_normal, KL_ret, KL_exit, K_goto, KB_goto, KL_goto, KS_goto, KS_ret, KS_normal, KS_exit, k_ret, k_normal, stepE, isCall, calleeE, opE, wantE, odE, odS, odL, odSL, fget, fput, initE, keepF, List.map_cons, List.map_nil, binE, intOp, strOp, shOp, unE, eqpE, eqnE, neqB, ressE, resE, packL, packE, flat1, fcells, fillE, setL, cellsOf_bind, cellsO_own, cellsO_ro, lenE_sl, lenE_nils, lenE_sl0, bound, rep, minE, maxE, Option.getD_some, Option.getD_none, isKey, nlS, List.getElem?_cons_zero, List.getElem?_cons_succ, get_lt, set_lt, get_len, get_len_add, set_len, set_len_add, List.append_assoc, List.cons_append, List.nil_append, -getElem?_pos, b28, s28_5, s28_4, s28_3, s28_2, s28_1, wh, o2, o4, o6, tk12, st12, cl12, e3, tj, es, p1, p2, p4]
      exact fin _ _ hm' p3
    have d3' : (hh == 22) = false := by simpa using d3
    by_cases d4 : hh = 23
    · subst d4
      have hm' : W64 ⟨c.k, ma, mb, mj, mc, md, my, mz, mp, mn, mr, mx⟩ := ⟨k1, g2, g3, g4, g5, g6, g7, g8, g9⟩
      obtain ⟨p1, p2, p3, p4⟩ := step _ hm'
      have es : (encC ⟨mk, ma, mb, mj, mc, md, my, mz, mp, mn, mr, mx⟩).set 0 (.int .i64 c.k) = encC ⟨c.k, ma, mb, mj, mc, md, my, mz, mp, mn, mr, mx⟩ := rfl
      simp [wpk_skip, wpk_seq, k_cond, wpk_block, wpk_exit, wpk_ret, wpk_goto, wpk_label, wpk_loop, k_ops, k_draw0, t_nil, t_cons, KT_eq, KD_eq, wpo_nil, k_cons, k_step, mt_some, mtk_some, KO_eq, KP_eq, K_normal, K_ret, K_exit, KB_normal, KB_ret, KB_exit, KL_normal, KL_ret, KL_exit, K_goto, KB_goto, KL_goto, KS_goto, KS_ret, KS_normal, KS_exit, k_ret, k_normal, stepE, isCall, calleeE, opE, wantE, odE, odS, odL, odSL, fget, fput, initE, keepF, List.map_cons, List.map_nil, binE, intOp, strOp, shOp, unE, eqpE, eqnE, neqB, ressE, resE, packL, packE, flat1, fcells, fillE, setL, cellsOf_bind, cellsO_own, cellsO_ro, lenE_sl, lenE_nils, lenE_sl0, bound, rep, minE, maxE, Option.getD_some, Option.getD_none, isKey, nlS, List.getElem?_cons_zero, List.getElem?_cons_succ, get_lt, set_lt, get_len, get_len_add, set_len, set_len_add, List.append_assoc, List.cons_append, List.nil_append, -getElem?_pos, b28, s28_5, s28_4, s28_3, s28_2, s28_1, wh, o2, o4, o6, tk12, st12, cl12, e0, es, p1, p2, p4]
      exact fin _ _ hm' p3
    have d4' : (hh == 23) = false := by simpa using d4
    simp [wpk_skip, wpk_seq, k_cond, wpk_block, wpk_exit, wpk_ret, wpk_goto, wpk_label, wpk_loop, k_ops, k_draw0, t_nil, t_cons, KT_eq, KD_eq, wpo_nil, k_cons, k_step, mt_some, mtk_some, KO_eq, KP_eq, K_normal, K_ret, K_exit, KB_normal, KB_ret, KB_exit, KL_normal, KL_ret, KL_exit, K_goto, KB_goto, KL_goto, KS_goto, KS_ret, KS_normal, KS_exit, k_ret, k_normal, stepE, isCall, calleeE, opE, wantE, odE, odS, odL, odSL, fget, fput, initE, keepF, List.map_cons, List.map_nil, binE, intOp, strOp, shOp, unE, eqpE, eqnE, neqB, ressE, resE, packL, packE, flat1, fcells, fillE, setL, cellsOf_bind, cellsO_own, cellsO_ro, lenE_sl, lenE_nils, lenE_sl0, bound, rep, minE, maxE, Option.getD_some, Option.getD_none, isKey, nlS, List.getElem?_cons_zero, List.getElem?_cons_succ, get_lt, set_lt, get_len, get_len_add, set_len, set_len_add, List.append_assoc, List.cons_append, List.nil_append, -getElem?_pos, b28, s28_5, s28_4, s28_3, s28_2, s28_1, wh, o4, o6, tk12, st12, cl12, d1, d1', d2, d2', d3, d3', d4, d4', get_self hl4]
    exact fin _ _ ⟨g1, g2, g3, g4, g5, g6, g7, g8, g9⟩ gr
end Go.Proofs.YtbgfcgmbihhlbaaDoor.Ev.CW
