/- Scripts as bytes: comparisons, copies, on the small machine. -/
import Derived.Test.YtbgfcgmbihhlbaaDoorWrE
set_option linter.unusedSimpArgs false
set_option linter.unusedVariables false
namespace Go.Proofs.YtbgfcgmbihhlbaaDoor.Ev.CW
open Go
open CK (Cm encC fieldsL fieldsB okC cmOf_enc)

theorem number8_ok (n : Int) (h : LH) : WPc C 8 [.s (.int .i64 n)] h fun u h' => Gr h h' ∧ ∃ w, u = .s w ∧ Ow h.length h' 5 encB w (num8 n) := by
  refine WPc.post fun Ψ hΨ => ?_
  refine WPc.intro (e := e8) rfl (by simp [e8]) ?_
  show WPk C b8 _ _ (KR [.tmp 2] _)
  simp [wpk_skip, wpk_seq, k_cond, wpk_block, wpk_exit, wpk_ret, wpk_goto, wpk_label, wpk_loop, k_ops, k_draw0, t_nil, t_cons, KT_eq, KD_eq, wpo_nil, k_cons, k_step, mt_some, mtk_some, KO_eq, KP_eq, K_normal, K_ret, K_exit, KB_normal, KB_ret, KB_exit, KL_normal, KL_ret, KL_exit, K_goto, KB_goto, KL_goto, KS_goto, KS_ret, KS_normal, KS_exit, k_ret, k_normal, stepE, isCall, calleeE, opE, wantE, odE, odS, odL, odSL, fget, fput, initE, keepF, List.map_cons, List.map_nil, binE, intOp, strOp, shOp, unE, eqpE, eqnE, neqB, ressE, resE, packL, packE, flat1, fcells, fillE, setL, cellsOf_bind, cellsO_own, cellsO_ro, lenE_sl, lenE_nils, lenE_sl0, bound, rep, minE, maxE, Option.getD_some, Option.getD_none, isKey, nlS, List.getElem?_cons_zero, List.getElem?_cons_succ, get_lt, set_lt, get_len, get_len_add, set_len, set_len_add, List.append_assoc, List.cons_append, List.nil_append, -getElem?_pos, b8, s8_3, s8_2, s8_1]
  refine WPl.inv2 (fun m fr h' => Gr h h' ∧ ∃ k w, k ≤ 8 ∧ m = 8 - k ∧ Ow h.length h' 5 encB w ((num8 n).take k) ∧ fr = [(0, some (.s (.int .i64 n))), (3, some (.s w)), (4, some (.s (.int .i64 (56 - 8 * k))))]) ?_ _ _ _ ⟨Gr.refl _, 0, .nils, by omega, rfl, Ow.nil _ _, rfl⟩
  rintro I hI m fr h' ⟨gr, k, w, hk, rfl, ow, rfl⟩
  refine ⟨by simp [keepF, fget], ?_⟩
  by_cases hlt : k < 8
  · have g0 : (56 : Int) - 8 * k ≥ 0 := by omega
    have g2 : 8 * (k : Int) ≤ 56 := by omega
    have g1 : ¬ (56 : Int) - 8 * k < 0 := by omega
    have g3 : IntKind.u64.wrap (56 - 8 * (k : Int)) = 56 - 8 * (k : Int) := by simp [IntKind.wrap, IntKind.bits, IntKind.signed]; omega
    have w3 : IntKind.i64.wrap (56 - 8 * (k : Int) - 8) = 56 - 8 * ((k + 1 : Nat) : Int) := by rw [wrap_small (by omega) (by omega)]; omega
    have hl : ((num8 n).take k).length = k := by rw [List.length_take]; simp [num8]; omega
    have hA := ow.app1 (y := 1) encB_len (by omega)
    obtain ⟨x, hx⟩ : ∃ x, (num8 n)[k]? = some x := ⟨_, List.getElem?_eq_getElem (by simp [num8]; omega)⟩
    have hx' : IntKind.u8.wrap ((IntKind.u64.wrap n).fdiv (2 ^ min ((56 : Int) - 8 * k).toNat IntKind.u64.bits)) = x := by
      have h : k = 0 ∨ k = 1 ∨ k = 2 ∨ k = 3 ∨ k = 4 ∨ k = 5 ∨ k = 6 ∨ k = 7 := by omega
      rcases h with rfl | rfl | rfl | rfl | rfl | rfl | rfl | rfl <;> (simp [num8] at hx; simp [IntKind.wrap, IntKind.bits, IntKind.signed, Int.fdiv_eq_ediv]; omega)
    have ht : (num8 n).take (k + 1) = (num8 n).take k ++ [x] := by
      rw [List.take_add_one, hx]; rfl
    obtain ⟨f1, f2⟩ := Ow.step gr ow x [LO.own 5 [.int .u8 x]] (n := ((num8 n).take k).length + 1) (cs := [.int .u8 x]) (m := 1) rfl rfl rfl
    rw [← ht, hl] at f2
    rw [hl] at hA
    simp [wpk_skip, wpk_seq, k_cond, wpk_block, wpk_exit, wpk_ret, wpk_goto, wpk_label, wpk_loop, k_ops, k_draw0, t_nil, t_cons, KT_eq, KD_eq, wpo_nil, k_cons, k_step, mt_some, mtk_some, KO_eq, KP_eq, K_normal, K_ret, K_exit, KB_normal, KB_ret, KB_exit, KL_normal, KL_ret, KL_exit, K_goto, KB_goto, KL_goto, KS_goto, KS_ret, KS_normal, KS_exit, k_ret, k_normal, stepE, isCall, calleeE, opE, wantE, odE, odS, odL, odSL, fget, fput, initE, keepF, List.map_cons, List.map_nil, binE, intOp, strOp, shOp, unE, eqpE, eqnE, neqB, ressE, resE, packL, packE, flat1, fcells, fillE, setL, cellsOf_bind, cellsO_own, cellsO_ro, lenE_sl, lenE_nils, lenE_sl0, bound, rep, minE, maxE, Option.getD_some, Option.getD_none, isKey, nlS, List.getElem?_cons_zero, List.getElem?_cons_succ, get_lt, set_lt, get_len, get_len_add, set_len, set_len_add, List.append_assoc, List.cons_append, List.nil_append, -getElem?_pos, l8_0_1, l8_0, g0, g1, g2, g3, hx', shOp, elems, hA, w3]
    exact ⟨_, by omega, hI _ _ _ ⟨f1, k + 1, _, by omega, rfl, f2, rfl⟩⟩
  · obtain rfl : k = 8 := by omega
    simp [wpk_skip, wpk_seq, k_cond, wpk_block, wpk_exit, wpk_ret, wpk_goto, wpk_label, wpk_loop, k_ops, k_draw0, t_nil, t_cons, KT_eq, KD_eq, wpo_nil, k_cons, k_step, mt_some, mtk_some, KO_eq, KP_eq, K_normal, K_ret, K_exit, KB_normal, KB_ret, KB_exit, KL_normal, KL_ret, KL_exit, K_goto, KB_goto, KL_goto, KS_goto, KS_ret, KS_normal, KS_exit, k_ret, k_normal, stepE, isCall, calleeE, opE, wantE, odE, odS, odL, odSL, fget, fput, initE, keepF, List.map_cons, List.map_nil, binE, intOp, strOp, shOp, unE, eqpE, eqnE, neqB, ressE, resE, packL, packE, flat1, fcells, fillE, setL, cellsOf_bind, cellsO_own, cellsO_ro, lenE_sl, lenE_nils, lenE_sl0, bound, rep, minE, maxE, Option.getD_some, Option.getD_none, isKey, nlS, List.getElem?_cons_zero, List.getElem?_cons_succ, get_lt, set_lt, get_len, get_len_add, set_len, set_len_add, List.append_assoc, List.cons_append, List.nil_append, -getElem?_pos, l8_0_1, l8_0]
    exact hΨ _ _ ⟨gr, w, rfl, ow⟩
theorem copyB_ok {h : LH} {v : SV} {l : List Int} (r : Rd h 5 1 encB v l) (hl : l.length ≤ 1000000) : WPc C 11 [.s v] h fun u h' => Gr h h' ∧ ∃ w, u = .s w ∧ Ow h.length h' 5 encB w l := by
  refine WPc.post fun Ψ hΨ => ?_
  refine WPc.intro (e := e11) rfl (by simp [e11]) ?_
  show WPk C b11 _ _ (KR [.tmp 2] _)
  obtain ⟨w, r', e, ow⟩ := copy_gen (y := 1) r (by omega)
  simp [wpk_skip, wpk_seq, k_cond, wpk_block, wpk_exit, wpk_ret, wpk_goto, wpk_label, wpk_loop, k_ops, k_draw0, t_nil, t_cons, KT_eq, KD_eq, wpo_nil, k_cons, k_step, mt_some, mtk_some, KO_eq, KP_eq, K_normal, K_ret, K_exit, KB_normal, KB_ret, KB_exit, KL_normal, KL_ret, KL_exit, K_goto, KB_goto, KL_goto, KS_goto, KS_ret, KS_normal, KS_exit, k_ret, k_normal, stepE, isCall, calleeE, opE, wantE, odE, odS, odL, odSL, fget, fput, initE, keepF, List.map_cons, List.map_nil, binE, intOp, strOp, shOp, unE, eqpE, eqnE, neqB, ressE, resE, packL, packE, flat1, fcells, fillE, setL, cellsOf_bind, cellsO_own, cellsO_ro, lenE_sl, lenE_nils, lenE_sl0, bound, rep, minE, maxE, Option.getD_some, Option.getD_none, isKey, nlS, List.getElem?_cons_zero, List.getElem?_cons_succ, get_lt, set_lt, get_len, get_len_add, set_len, set_len_add, List.append_assoc, List.cons_append, List.nil_append, -getElem?_pos, b11, s11_1, r.len, r.elems, e]
  exact hΨ _ _ ⟨Gr.self _ _, w, rfl, ow⟩
theorem sameB_ok {h : LH} {v w : SV} {l m : List Int} (r : Rd h 5 1 encB v l) (q : Rd h 5 1 encB w m) (hl : l.length < 10000000) : callX C 10 [.s v, .s w] h = some (.s (.bool (decide (l = m))), h) := by
  apply callX_wp
  refine WPc.intro (e := e10) rfl (by simp [e10]) ?_
  show WPk C b10 _ _ (KR [.tmp 4] _)
  by_cases hlen : l.length = m.length
  · have hlen' : ((l.length : Int) != m.length) = false := by simp [hlen]
    simp [wpk_skip, wpk_seq, k_cond, wpk_block, wpk_exit, wpk_ret, wpk_goto, wpk_label, wpk_loop, k_ops, k_draw0, t_nil, t_cons, KT_eq, KD_eq, wpo_nil, k_cons, k_step, mt_some, mtk_some, KO_eq, KP_eq, K_normal, K_ret, K_exit, KB_normal, KB_ret, KB_exit, KL_normal, KL_ret, KL_exit, K_goto, KB_goto, KL_goto, KS_goto, KS_ret, KS_normal, KS_exit, k_ret, k_normal, stepE, isCall, calleeE, opE, wantE, odE, odS, odL, odSL, fget, fput, initE, keepF, List.map_cons, List.map_nil, binE, intOp, strOp, shOp, unE, eqpE, eqnE, neqB, ressE, resE, packL, packE, flat1, fcells, fillE, setL, cellsOf_bind, cellsO_own, cellsO_ro, lenE_sl, lenE_nils, lenE_sl0, bound, rep, minE, maxE, Option.getD_some, Option.getD_none, isKey, nlS, List.getElem?_cons_zero, List.getElem?_cons_succ, get_lt, set_lt, get_len, get_len_add, set_len, set_len_add, List.append_assoc, List.cons_append, List.nil_append, -getElem?_pos, b10, s10_3, s10_2, s10_1, r.len, q.len, hlen']
    refine WPl.inv (fun n fr h' => h' = h ∧ ∃ k, k ≤ l.length ∧ n = l.length - k ∧ l.take k = m.take k ∧ fr = [(0, some (.s v)), (1, some (.s w)), (5, some (.s (.int .i64 k)))]) ?_ _ _ _ ⟨rfl, 0, Nat.zero_le _, rfl, by simp, by simp⟩
    rintro n fr h' ⟨rfl, k, hk, rfl, ht, rfl⟩
    refine ⟨by simp [keepF, fget], ?_⟩
    have rl := r.len
    have ql := q.len
    by_cases hlt : k < l.length
    · obtain ⟨i, p, o, ob, vs, rfl, q2, q3, q4⟩ := r.at1 (f := .int .u8) (fun _ => rfl) hlt
      obtain ⟨i', p', o', ob', vs', rfl, u2, u3, u4⟩ := q.at1 (f := .int .u8) (k := k) (fun _ => rfl) (by omega)
      have hlt' : k < m.length := by omega
      have w3 : IntKind.i64.wrap ((k : Int) + 1) = ((k + 1 : Nat) : Int) := wrap_small (by omega) (by omega)
      by_cases hv : l[k] = m[k]
      · have hv' : (l[k] != m[k]) = false := by simp [hv]
        simp [wpk_skip, wpk_seq, k_cond, wpk_block, wpk_exit, wpk_ret, wpk_goto, wpk_label, wpk_loop, k_ops, k_draw0, t_nil, t_cons, KT_eq, KD_eq, wpo_nil, k_cons, k_step, mt_some, mtk_some, KO_eq, KP_eq, K_normal, K_ret, K_exit, KB_normal, KB_ret, KB_exit, KL_normal, KL_ret, KL_exit, K_goto, KB_goto, KL_goto, KS_goto, KS_ret, KS_normal, KS_exit, k_ret, k_normal, stepE, isCall, calleeE, opE, wantE, odE, odS, odL, odSL, fget, fput, initE, keepF, List.map_cons, List.map_nil, binE, intOp, strOp, shOp, unE, eqpE, eqnE, neqB, ressE, resE, packL, packE, flat1, fcells, fillE, setL, cellsOf_bind, cellsO_own, cellsO_ro, lenE_sl, lenE_nils, lenE_sl0, bound, rep, minE, maxE, Option.getD_some, Option.getD_none, isKey, nlS, List.getElem?_cons_zero, List.getElem?_cons_succ, get_lt, set_lt, get_len, get_len_add, set_len, set_len_add, List.append_assoc, List.cons_append, List.nil_append, -getElem?_pos, l10_0_1, l10_0, hlt, hlt', q2, q3, q4, u2, u3, u4, hv', w3]
        exact ⟨_, by omega, k + 1, hlt, rfl, by rw [List.take_succ_eq_append_getElem hlt, List.take_succ_eq_append_getElem hlt', ht, hv], rfl⟩
      · have hv' : (l[k] != m[k]) = true := by simp [hv]
        have hne : l ≠ m := fun e => hv (by subst e; rfl)
        simp [wpk_skip, wpk_seq, k_cond, wpk_block, wpk_exit, wpk_ret, wpk_goto, wpk_label, wpk_loop, k_ops, k_draw0, t_nil, t_cons, KT_eq, KD_eq, wpo_nil, k_cons, k_step, mt_some, mtk_some, KO_eq, KP_eq, K_normal, K_ret, K_exit, KB_normal, KB_ret, KB_exit, KL_normal, KL_ret, KL_exit, K_goto, KB_goto, KL_goto, KS_goto, KS_ret, KS_normal, KS_exit, k_ret, k_normal, stepE, isCall, calleeE, opE, wantE, odE, odS, odL, odSL, fget, fput, initE, keepF, List.map_cons, List.map_nil, binE, intOp, strOp, shOp, unE, eqpE, eqnE, neqB, ressE, resE, packL, packE, flat1, fcells, fillE, setL, cellsOf_bind, cellsO_own, cellsO_ro, lenE_sl, lenE_nils, lenE_sl0, bound, rep, minE, maxE, Option.getD_some, Option.getD_none, isKey, nlS, List.getElem?_cons_zero, List.getElem?_cons_succ, get_lt, set_lt, get_len, get_len_add, set_len, set_len_add, List.append_assoc, List.cons_append, List.nil_append, -getElem?_pos, l10_0_1, l10_0, hlt, hlt', q2, q3, q4, u2, u3, u4, hv', w3, hne]
    · obtain rfl : k = l.length := by omega
      have he : l = m := by rw [List.take_length, List.take_of_length_le (by omega)] at ht; exact ht
      simp [wpk_skip, wpk_seq, k_cond, wpk_block, wpk_exit, wpk_ret, wpk_goto, wpk_label, wpk_loop, k_ops, k_draw0, t_nil, t_cons, KT_eq, KD_eq, wpo_nil, k_cons, k_step, mt_some, mtk_some, KO_eq, KP_eq, K_normal, K_ret, K_exit, KB_normal, KB_ret, KB_exit, KL_normal, KL_ret, KL_exit, K_goto, KB_goto, KL_goto, KS_goto, KS_ret, KS_normal, KS_exit, k_ret, k_normal, stepE, isCall, calleeE, opE, wantE, odE, odS, odL, odSL, fget, fput, initE, keepF, List.map_cons, List.map_nil, binE, intOp, strOp, shOp, unE, eqpE, eqnE, neqB, ressE, resE, packL, packE, flat1, fcells, fillE, setL, cellsOf_bind, cellsO_own, cellsO_ro, lenE_sl, lenE_nils, lenE_sl0, bound, rep, minE, maxE, Option.getD_some, Option.getD_none, isKey, nlS, List.getElem?_cons_zero, List.getElem?_cons_succ, get_lt, set_lt, get_len, get_len_add, set_len, set_len_add, List.append_assoc, List.cons_append, List.nil_append, -getElem?_pos, l10_0_1, l10_0, hlt, rl, he]
  · have hlen' : ((l.length : Int) != m.length) = true := by simp; omega
    have hne : l ≠ m := fun e => hlen (by rw [e])
    simp [wpk_skip, wpk_seq, k_cond, wpk_block, wpk_exit, wpk_ret, wpk_goto, wpk_label, wpk_loop, k_ops, k_draw0, t_nil, t_cons, KT_eq, KD_eq, wpo_nil, k_cons, k_step, mt_some, mtk_some, KO_eq, KP_eq, K_normal, K_ret, K_exit, KB_normal, KB_ret, KB_exit, KL_normal, KL_ret, KL_exit, K_goto, KB_goto, KL_goto, KS_goto, KS_ret, KS_normal, KS_exit, k_ret, k_normal, stepE, isCall, calleeE, opE, wantE, odE, odS, odL, odSL, fget, fput, initE, keepF, List.map_cons, List.map_nil, binE, intOp, strOp, shOp, unE, eqpE, eqnE, neqB, ressE, resE, packL, packE, flat1, fcells, fillE, setL, cellsOf_bind, cellsO_own, cellsO_ro, lenE_sl, lenE_nils, lenE_sl0, bound, rep, minE, maxE, Option.getD_some, Option.getD_none, isKey, nlS, List.getElem?_cons_zero, List.getElem?_cons_succ, get_lt, set_lt, get_len, get_len_add, set_len, set_len_add, List.append_assoc, List.cons_append, List.nil_append, -getElem?_pos, b10, s10_3, s10_2, s10_1, r.len, q.len, hlen', hne]

theorem beq_str (a b : ByteArray) : (a.toList == b.toList) = decide (a = b) := by
  by_cases h : a = b
  · subst h; simp
  · rw [decide_eq_false h]
    have : a.toList ≠ b.toList := fun e => h (by
      rw [ByteArray.toList_eq, ByteArray.toList_eq] at e
      apply ByteArray.ext
      exact Array.toList_inj.1 e)
    simpa using this
theorem ba_self (s : ByteArray) : (s == s) = true := by rw [ba_beq]; simp
theorem cells_eq (a b : Cm) : cellsEq (encC a) (encC b) [(0, 0), (1, 2), (2, 2), (3, 2), (4, 0), (5, 0), (6, 0), (7, 0), (8, 0), (9, 0), (10, 0), (11, 0)] = some (decide (a = b)) := by
  obtain ⟨a0, a1, a2, a3, a4, a5, a6, a7, a8, a9, a10, a11⟩ := a
  obtain ⟨b0, b1, b2, b3, b4, b5, b6, b7, b8, b9, b10, b11⟩ := b
  by_cases h0 : a0 = b0
  case neg =>
    have e : (a0 == b0) = false := by simpa using h0
    simp [cellsEq, encC, cellEq, ba_self, e, h0]
  subst h0
  by_cases h1 : a1 = b1
  case neg =>
    have e : (a1 == b1) = false := by rw [ba_beq]; exact decide_eq_false h1
    simp [cellsEq, encC, cellEq, ba_self, e, h1]
  subst h1
  by_cases h2 : a2 = b2
  case neg =>
    have e : (a2 == b2) = false := by rw [ba_beq]; exact decide_eq_false h2
    simp [cellsEq, encC, cellEq, ba_self, e, h2]
  subst h2
  by_cases h3 : a3 = b3
  case neg =>
    have e : (a3 == b3) = false := by rw [ba_beq]; exact decide_eq_false h3
    simp [cellsEq, encC, cellEq, ba_self, e, h3]
  subst h3
  by_cases h4 : a4 = b4
  case neg =>
    have e : (a4 == b4) = false := by simpa using h4
    simp [cellsEq, encC, cellEq, ba_self, e, h4]
  subst h4
  by_cases h5 : a5 = b5
  case neg =>
    have e : (a5 == b5) = false := by simpa using h5
    simp [cellsEq, encC, cellEq, ba_self, e, h5]
  subst h5
  by_cases h6 : a6 = b6
  case neg =>
    have e : (a6 == b6) = false := by simpa using h6
    simp [cellsEq, encC, cellEq, ba_self, e, h6]
  subst h6
  by_cases h7 : a7 = b7
  case neg =>
    have e : (a7 == b7) = false := by simpa using h7
    simp [cellsEq, encC, cellEq, ba_self, e, h7]
  subst h7
  by_cases h8 : a8 = b8
  case neg =>
    have e : (a8 == b8) = false := by simpa using h8
    simp [cellsEq, encC, cellEq, ba_self, e, h8]
  subst h8
  by_cases h9 : a9 = b9
  case neg =>
    have e : (a9 == b9) = false := by simpa using h9
    simp [cellsEq, encC, cellEq, ba_self, e, h9]
  subst h9
  by_cases h10 : a10 = b10
  case neg =>
    have e : (a10 == b10) = false := by simpa using h10
    simp [cellsEq, encC, cellEq, ba_self, e, h10]
  subst h10
  by_cases h11 : a11 = b11
  case neg =>
    have e : (a11 == b11) = false := by simpa using h11
    simp [cellsEq, encC, cellEq, ba_self, e, h11]
  subst h11
  simp [cellsEq, encC, cellEq, ba_self]
theorem sameC_ok {h : LH} {v w : SV} {l m : List Cm} (r : Rd h 23 12 encC v l) (q : Rd h 23 12 encC w m) (hl : l.length < 10000000) : callX C 13 [.s v, .s w] h = some (.s (.bool (decide (l = m))), h) := by
  apply callX_wp
  refine WPc.intro (e := e13) rfl (by simp [e13]) ?_
  show WPk C b13 _ _ (KR [.tmp 4] _)
  by_cases hlen : l.length = m.length
  · have hlen' : ((l.length : Int) != m.length) = false := by simp [hlen]
    simp [wpk_skip, wpk_seq, k_cond, wpk_block, wpk_exit, wpk_ret, wpk_goto, wpk_label, wpk_loop, k_ops, k_draw0, t_nil, t_cons, KT_eq, KD_eq, wpo_nil, k_cons, k_step, mt_some, mtk_some, KO_eq, KP_eq, K_normal, K_ret, K_exit, KB_normal, KB_ret, KB_exit, KL_normal, KL_ret, KL_exit, K_goto, KB_goto, KL_goto, KS_goto, KS_ret, KS_normal, KS_exit, k_ret, k_normal, stepE, isCall, calleeE, opE, wantE, odE, odS, odL, odSL, fget, fput, initE, keepF, List.map_cons, List.map_nil, binE, intOp, strOp, shOp, unE, eqpE, eqnE, neqB, ressE, resE, packL, packE, flat1, fcells, fillE, setL, cellsOf_bind, cellsO_own, cellsO_ro, lenE_sl, lenE_nils, lenE_sl0, bound, rep, minE, maxE, Option.getD_some, Option.getD_none, isKey, nlS, List.getElem?_cons_zero, List.getElem?_cons_succ, get_lt, set_lt, get_len, get_len_add, set_len, set_len_add, List.append_assoc, List.cons_append, List.nil_append, -getElem?_pos, b13, s13_3, s13_2, s13_1, r.len, q.len, hlen']
    refine WPl.inv (fun n fr h' => h' = h ∧ ∃ k, k ≤ l.length ∧ n = l.length - k ∧ l.take k = m.take k ∧ fr = [(0, some (.s v)), (1, some (.s w)), (5, some (.s (.int .i64 k)))]) ?_ _ _ _ ⟨rfl, 0, Nat.zero_le _, rfl, by simp, by simp⟩
    rintro n fr h' ⟨rfl, k, hk, rfl, ht, rfl⟩
    refine ⟨by simp [keepF, fget], ?_⟩
    have rl := r.len
    have ql := q.len
    by_cases hlt : k < l.length
    · obtain ⟨i, p, o, ob, vs, rfl, q2, q3, q4, q5, q6⟩ := r.at encC_len hlt
      obtain ⟨i', p', o', ob', vs', rfl, u2, u3, u4, u5, u6⟩ := q.at (k := k) encC_len (by omega)
      have hlt' : k < m.length := by omega
      have w3 : IntKind.i64.wrap ((k : Int) + 1) = ((k + 1 : Nat) : Int) := wrap_small (by omega) (by omega)
      have hce := cells_eq l[k] m[k]
      by_cases hv : l[k] = m[k]
      · rw [decide_eq_true hv] at hce
        simp [wpk_skip, wpk_seq, k_cond, wpk_block, wpk_exit, wpk_ret, wpk_goto, wpk_label, wpk_loop, k_ops, k_draw0, t_nil, t_cons, KT_eq, KD_eq, wpo_nil, k_cons, k_step, mt_some, mtk_some, KO_eq, KP_eq, K_normal, K_ret, K_exit, KB_normal, KB_ret, KB_exit, KL_normal, KL_ret, KL_exit, K_goto, KB_goto, KL_goto, KS_goto, KS_ret, KS_normal, KS_exit, k_ret, k_normal, stepE, isCall, calleeE, opE, wantE, odE, odS, odL, odSL, fget, fput, initE, keepF, List.map_cons, List.map_nil, binE, intOp, strOp, shOp, unE, eqpE, eqnE, neqB, ressE, resE, packL, packE, flat1, fcells, fillE, setL, cellsOf_bind, cellsO_own, cellsO_ro, lenE_sl, lenE_nils, lenE_sl0, bound, rep, minE, maxE, Option.getD_some, Option.getD_none, isKey, nlS, List.getElem?_cons_zero, List.getElem?_cons_succ, get_lt, set_lt, get_len, get_len_add, set_len, set_len_add, List.append_assoc, List.cons_append, List.nil_append, -getElem?_pos, l13_0_1, l13_0, hlt, hlt', q2, q3, q4, q5, u2, u3, u4, u5, hce, w3]
        exact ⟨_, by omega, k + 1, hlt, rfl, by rw [List.take_succ_eq_append_getElem hlt, List.take_succ_eq_append_getElem hlt', ht, hv], rfl⟩
      · rw [decide_eq_false hv] at hce
        have hne : l ≠ m := fun e => hv (by subst e; rfl)
        simp [wpk_skip, wpk_seq, k_cond, wpk_block, wpk_exit, wpk_ret, wpk_goto, wpk_label, wpk_loop, k_ops, k_draw0, t_nil, t_cons, KT_eq, KD_eq, wpo_nil, k_cons, k_step, mt_some, mtk_some, KO_eq, KP_eq, K_normal, K_ret, K_exit, KB_normal, KB_ret, KB_exit, KL_normal, KL_ret, KL_exit, K_goto, KB_goto, KL_goto, KS_goto, KS_ret, KS_normal, KS_exit, k_ret, k_normal, stepE, isCall, calleeE, opE, wantE, odE, odS, odL, odSL, fget, fput, initE, keepF, List.map_cons, List.map_nil, binE, intOp, strOp, shOp, unE, eqpE, eqnE, neqB, ressE, resE, packL, packE, flat1, fcells, fillE, setL, cellsOf_bind, cellsO_own, cellsO_ro, lenE_sl, lenE_nils, lenE_sl0, bound, rep, minE, maxE, Option.getD_some, Option.getD_none, isKey, nlS, List.getElem?_cons_zero, List.getElem?_cons_succ, get_lt, set_lt, get_len, get_len_add, set_len, set_len_add, List.append_assoc, List.cons_append, List.nil_append, -getElem?_pos, l13_0_1, l13_0, hlt, hlt', q2, q3, q4, q5, u2, u3, u4, u5, hce, w3, hne]
    · obtain rfl : k = l.length := by omega
      have he : l = m := by rw [List.take_length, List.take_of_length_le (by omega)] at ht; exact ht
      simp [wpk_skip, wpk_seq, k_cond, wpk_block, wpk_exit, wpk_ret, wpk_goto, wpk_label, wpk_loop, k_ops, k_draw0, t_nil, t_cons, KT_eq, KD_eq, wpo_nil, k_cons, k_step, mt_some, mtk_some, KO_eq, KP_eq, K_normal, K_ret, K_exit, KB_normal, KB_ret, KB_exit, KL_normal, KL_ret, KL_exit, K_goto, KB_goto, KL_goto, KS_goto, KS_ret, KS_normal, KS_exit, k_ret, k_normal, stepE, isCall, calleeE, opE, wantE, odE, odS, odL, odSL, fget, fput, initE, keepF, List.map_cons, List.map_nil, binE, intOp, strOp, shOp, unE, eqpE, eqnE, neqB, ressE, resE, packL, packE, flat1, fcells, fillE, setL, cellsOf_bind, cellsO_own, cellsO_ro, lenE_sl, lenE_nils, lenE_sl0, bound, rep, minE, maxE, Option.getD_some, Option.getD_none, isKey, nlS, List.getElem?_cons_zero, List.getElem?_cons_succ, get_lt, set_lt, get_len, get_len_add, set_len, set_len_add, List.append_assoc, List.cons_append, List.nil_append, -getElem?_pos, l13_0_1, l13_0, hlt, rl, he]
  · have hlen' : ((l.length : Int) != m.length) = true := by simp; omega
    have hne : l ≠ m := fun e => hlen (by rw [e])
    simp [wpk_skip, wpk_seq, k_cond, wpk_block, wpk_exit, wpk_ret, wpk_goto, wpk_label, wpk_loop, k_ops, k_draw0, t_nil, t_cons, KT_eq, KD_eq, wpo_nil, k_cons, k_step, mt_some, mtk_some, KO_eq, KP_eq, K_normal, K_ret, K_exit, KB_normal, KB_ret, KB_exit, KL_normal, KL_ret, KL_exit, K_goto, KB_goto, KL_goto, KS_goto, KS_ret, KS_normal, KS_exit, k_ret, k_normal, stepE, isCall, calleeE, opE, wantE, odE, odS, odL, odSL, fget, fput, initE, keepF, List.map_cons, List.map_nil, binE, intOp, strOp, shOp, unE, eqpE, eqnE, neqB, ressE, resE, packL, packE, flat1, fcells, fillE, setL, cellsOf_bind, cellsO_own, cellsO_ro, lenE_sl, lenE_nils, lenE_sl0, bound, rep, minE, maxE, Option.getD_some, Option.getD_none, isKey, nlS, List.getElem?_cons_zero, List.getElem?_cons_succ, get_lt, set_lt, get_len, get_len_add, set_len, set_len_add, List.append_assoc, List.cons_append, List.nil_append, -getElem?_pos, b13, s13_3, s13_2, s13_1, r.len, q.len, hlen', hne]
end Go.Proofs.YtbgfcgmbihhlbaaDoor.Ev.CW
