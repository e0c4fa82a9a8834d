/- ChartBack on the small machine: the accounts' names are seven, each other than the others. -/
import Derived.Test.YtfnihfcdoibleaaChartA
import Derived.Test.YtfnihfcdoibleaaEvRow
set_option linter.unusedSimpArgs false
set_option linter.unusedVariables false
namespace Go.Proofs.Ytfnihfcdoibleaa.Ev.CH
open Go

/-- The names seen so far. -/
def esF (k : Nat) : List (SV × SV) := ((nm.drop 1).take k).map fun s => (.str s, .bool true)
def cF (k : Nat) : Int := (([0, 1, 1, 2, 2, 2, 2, 3] : List Int)[k]?).getD 0
theorem round_F {k : Nat} (hk : k < 7) : ∃ s, nameF ((k + 1 : Nat) : Int) = s ∧ (s.toList == (⟨#[]⟩ : ByteArray).toList) = false ∧ ofF s = (((k + 1 : Nat) : Int), true) ∧ getM (.str s) (esF k) = some none ∧ putM (.str s) (.bool true) (esF k) = some (esF (k + 1)) ∧
    (costF ((k + 1 : Nat) : Int) = true ∧ cF (k + 1) = cF k + 1 ∨ costF ((k + 1 : Nat) : Int) = false ∧ cF (k + 1) = cF k) := by
  have h : k = 0 ∨ k = 1 ∨ k = 2 ∨ k = 3 ∨ k = 4 ∨ k = 5 ∨ k = 6 := by omega
  rcases h with rfl | rfl | rfl | rfl | rfl | rfl | rfl
  · exact ⟨_, rfl, by decide +kernel, by decide +kernel, rfl, rfl, .inl (by decide)⟩
  · exact ⟨_, rfl, by decide +kernel, by decide +kernel, rfl, rfl, .inr (by decide)⟩
  · exact ⟨_, rfl, by decide +kernel, by decide +kernel, rfl, rfl, .inl (by decide)⟩
  · exact ⟨_, rfl, by decide +kernel, by decide +kernel, rfl, rfl, .inr (by decide)⟩
  · exact ⟨_, rfl, by decide +kernel, by decide +kernel, rfl, rfl, .inr (by decide)⟩
  · exact ⟨_, rfl, by decide +kernel, by decide +kernel, rfl, rfl, .inr (by decide)⟩
  · exact ⟨_, rfl, by decide +kernel, by decide +kernel, rfl, rfl, .inl (by decide)⟩
theorem cF_small {k : Nat} (hk : k < 7) : 0 ≤ cF k ∧ cF k ≤ 3 := by
  have h : k = 0 ∨ k = 1 ∨ k = 2 ∨ k = 3 ∨ k = 4 ∨ k = 5 ∨ k = 6 := by omega
  rcases h with rfl | rfl | rfl | rfl | rfl | rfl | rfl <;> decide

theorem beq_str (a b : ByteArray) : (a.toList == b.toList) = decide (a = b) := by
  by_cases h : a = b
  · subst h; simp
  · rw [decide_eq_false h]
    have : a.toList ≠ b.toList := fun e => h (by
      rw [ByteArray.toList_eq, ByteArray.toList_eq] at e
      apply ByteArray.ext
      exact Array.toList_inj.1 e)
    simpa using this

theorem seen_F (s : ByteArray) : ∃ r, getM (.str s) (esF 7) = some r ∧ (ofF s).2 = r.isSome ∧ (r = none ∨ r = some (.bool true)) := by
  have e : esF 7 = [(.str ⟨#[99, 117, 114, 114, 101, 110, 116]⟩, .bool true), (.str ⟨#[112, 97, 121, 97, 98, 108, 101]⟩, .bool true), (.str ⟨#[100, 101, 102, 101, 114, 114, 101, 100]⟩, .bool true), (.str ⟨#[116, 101, 109, 112]⟩, .bool true), (.str ⟨#[108, 111, 115, 115, 101, 115]⟩, .bool true), (.str ⟨#[97, 108, 108, 111, 119, 97, 110, 99, 101]⟩, .bool true), (.str ⟨#[116, 114, 117, 101, 117, 112]⟩, .bool true)] := rfl
  by_cases e0 : s = ⟨#[]⟩
  · subst e0; exact ⟨none, rfl, by decide +kernel, .inl rfl⟩
  by_cases e1 : s = ⟨#[99, 117, 114, 114, 101, 110, 116]⟩
  · subst e1; exact ⟨some (.bool true), rfl, by decide +kernel, .inr rfl⟩
  by_cases e2 : s = ⟨#[112, 97, 121, 97, 98, 108, 101]⟩
  · subst e2; exact ⟨some (.bool true), rfl, by decide +kernel, .inr rfl⟩
  by_cases e3 : s = ⟨#[100, 101, 102, 101, 114, 114, 101, 100]⟩
  · subst e3; exact ⟨some (.bool true), rfl, by decide +kernel, .inr rfl⟩
  by_cases e4 : s = ⟨#[116, 101, 109, 112]⟩
  · subst e4; exact ⟨some (.bool true), rfl, by decide +kernel, .inr rfl⟩
  by_cases e5 : s = ⟨#[108, 111, 115, 115, 101, 115]⟩
  · subst e5; exact ⟨some (.bool true), rfl, by decide +kernel, .inr rfl⟩
  by_cases e6 : s = ⟨#[97, 108, 108, 111, 119, 97, 110, 99, 101]⟩
  · subst e6; exact ⟨some (.bool true), rfl, by decide +kernel, .inr rfl⟩
  by_cases e7 : s = ⟨#[116, 114, 117, 101, 117, 112]⟩
  · subst e7; exact ⟨some (.bool true), rfl, by decide +kernel, .inr rfl⟩
  rw [e]
  simp only [getM, keyEq, ba_beq]
  unfold ofF
  simp only [nm, firstI, beq_str]
  refine ⟨none, ?_, ?_, .inl rfl⟩
  · simp only [decide_eq_false e1, decide_eq_false e2, decide_eq_false e3, decide_eq_false e4, decide_eq_false e5, decide_eq_false e6, decide_eq_false e7]
  · simp only [decide_eq_false e0, decide_eq_false e1, decide_eq_false e2, decide_eq_false e3, decide_eq_false e4, decide_eq_false e5, decide_eq_false e6, decide_eq_false e7, Bool.false_eq_true, if_false]
    rfl

theorem name_in (n : Int) : ((nameF n).toList == (⟨#[]⟩ : ByteArray).toList) = !decide (1 ≤ n ∧ n ≤ 7) := by
  by_cases h : 1 ≤ n ∧ n ≤ 7
  · have h' : n = 1 ∨ n = 2 ∨ n = 3 ∨ n = 4 ∨ n = 5 ∨ n = 6 ∨ n = 7 := by omega
    rcases h' with rfl | rfl | rfl | rfl | rfl | rfl | rfl <;> decide +kernel
  · rw [decide_eq_false h]
    unfold nameF
    rw [if_neg h]; simp

theorem name_in' (n : Int) : (nameF n).toList.isEmpty = !decide (1 ≤ n ∧ n ≤ 7) := by
  rw [← name_in]
  cases (nameF n).toList <;> simp

theorem text_ok (s : ByteArray) (h : LH) : ∃ t, callX C 47 [.s (.str s), .s (.int .i64 12)] h = some (.s (.str t), h) := by
  by_cases hc : (12 : Int) < (s.size : Int)
  · refine ⟨s.extract 0 12, callX_wp ?_⟩
    refine WPc.intro (e := e47) rfl (by simp [e47]) ?_
    show WPk C b47 _ _ (KR [.tmp 4] _)
    have hs : 12 ≤ s.size := by omega
    simp [wpk_skip, wpk_seq, k_cond, wpk_block, wpk_exit, wpk_ret, wpk_goto, wpk_label, wpk_loop, k_ops, k_draw0, t_nil, t_cons, KT_eq, KD_eq, wpo_nil, k_cons, k_step, mt_some, mtk_some, KO_eq, KP_eq, K_normal, K_ret, K_exit, KB_normal, KB_ret, KB_exit, KL_normal, KL_ret, KL_exit, K_goto, KB_goto, KL_goto, KS_goto, KS_ret, KS_normal, KS_exit, k_ret, k_normal, stepE, isCall, calleeE, opE, wantE, odE, odS, odL, odSL, fget, fput, initE, keepF, List.map_cons, List.map_nil, binE, intOp, strOp, shOp, unE, eqpE, eqnE, neqB, ressE, resE, packL, packE, flat1, fcells, fillE, setL, cellsOf_bind, cellsO_own, cellsO_ro, lenE_sl, lenE_nils, lenE_sl0, bound, rep, minE, maxE, Option.getD_some, Option.getD_none, isKey, nlS, List.getElem?_cons_zero, List.getElem?_cons_succ, get_lt, set_lt, get_len, get_len_add, set_len, set_len_add, List.append_assoc, List.cons_append, List.nil_append, -getElem?_pos, b47, s47_1, hc, hs]
  · refine ⟨s.extract 0 s.size, callX_wp ?_⟩
    refine WPc.intro (e := e47) rfl (by simp [e47]) ?_
    show WPk C b47 _ _ (KR [.tmp 4] _)
    simp [wpk_skip, wpk_seq, k_cond, wpk_block, wpk_exit, wpk_ret, wpk_goto, wpk_label, wpk_loop, k_ops, k_draw0, t_nil, t_cons, KT_eq, KD_eq, wpo_nil, k_cons, k_step, mt_some, mtk_some, KO_eq, KP_eq, K_normal, K_ret, K_exit, KB_normal, KB_ret, KB_exit, KL_normal, KL_ret, KL_exit, K_goto, KB_goto, KL_goto, KS_goto, KS_ret, KS_normal, KS_exit, k_ret, k_normal, stepE, isCall, calleeE, opE, wantE, odE, odS, odL, odSL, fget, fput, initE, keepF, List.map_cons, List.map_nil, binE, intOp, strOp, shOp, unE, eqpE, eqnE, neqB, ressE, resE, packL, packE, flat1, fcells, fillE, setL, cellsOf_bind, cellsO_own, cellsO_ro, lenE_sl, lenE_nils, lenE_sl0, bound, rep, minE, maxE, Option.getD_some, Option.getD_none, isKey, nlS, List.getElem?_cons_zero, List.getElem?_cons_succ, get_lt, set_lt, get_len, get_len_add, set_len, set_len_add, List.append_assoc, List.cons_append, List.nil_append, -getElem?_pos, b47, s47_1, hc]

set_option maxRecDepth 20000 in
set_option maxHeartbeats 4000000 in
theorem chartBack_ok {h0 : LH} (n : Int) (s : ByteArray) : ∃ h', callX C 13 [.s (.int .i64 n), .s (.str s)] h0 = some (.s (.bool true), h') ∧ True := by
  suffices w : WPc C 13 [.s (.int .i64 n), .s (.str s)] h0 fun u _ => u = .s (.bool true) by
    obtain ⟨v, h', e, rfl⟩ := w
    exact ⟨h', e, trivial⟩
  refine WPc.post fun Ψ hΨ => ?_
  refine WPc.intro (e := e13) rfl (by simp [e13]) ?_
  show WPk C b13 _ _ (KR [.tmp 4] _)
  simp [wpk_skip, wpk_seq, k_cond, wpk_block, wpk_exit, wpk_ret, wpk_goto, wpk_label, wpk_loop, k_ops, k_draw0, t_nil, t_cons, KT_eq, KD_eq, wpo_nil, k_cons, k_step, mt_some, mtk_some, KO_eq, KP_eq, K_normal, K_ret, K_exit, KB_normal, KB_ret, KB_exit, KL_normal, KL_ret, KL_exit, K_goto, KB_goto, KL_goto, KS_goto, KS_ret, KS_normal, KS_exit, k_ret, k_normal, stepE, isCall, calleeE, opE, wantE, odE, odS, odL, odSL, fget, fput, initE, keepF, List.map_cons, List.map_nil, binE, intOp, strOp, shOp, unE, eqpE, eqnE, neqB, ressE, resE, packL, packE, flat1, fcells, fillE, setL, cellsOf_bind, cellsO_own, cellsO_ro, lenE_sl, lenE_nils, lenE_sl0, bound, rep, minE, maxE, Option.getD_some, Option.getD_none, isKey, nlS, List.getElem?_cons_zero, List.getElem?_cons_succ, get_lt, set_lt, get_len, get_len_add, set_len, set_len_add, List.append_assoc, List.cons_append, List.nil_append, -getElem?_pos, b13, s13_8, s13_7, s13_6, s13_5, s13_4, s13_3, s13_2, s13_1]
  refine WPc.go (accounts_ok _) ?_
  rintro _ h1 ⟨g1, w, rfl, ow⟩
  have hm1 : h1[h0.length]? = some (.map []) := by rw [g1.same _ (by simp)]; exact get_len
  have ow1 := ow.base (b' := h0.length + 1) (by simp)
  simp [wpk_skip, wpk_seq, k_cond, wpk_block, wpk_exit, wpk_ret, wpk_goto, wpk_label, wpk_loop, k_ops, k_draw0, t_nil, t_cons, KT_eq, KD_eq, wpo_nil, k_cons, k_step, mt_some, mtk_some, KO_eq, KP_eq, K_normal, K_ret, K_exit, KB_normal, KB_ret, KB_exit, KL_normal, KL_ret, KL_exit, K_goto, KB_goto, KL_goto, KS_goto, KS_ret, KS_normal, KS_exit, k_ret, k_normal, stepE, isCall, calleeE, opE, wantE, odE, odS, odL, odSL, fget, fput, initE, keepF, List.map_cons, List.map_nil, binE, intOp, strOp, shOp, unE, eqpE, eqnE, neqB, ressE, resE, packL, packE, flat1, fcells, fillE, setL, cellsOf_bind, cellsO_own, cellsO_ro, lenE_sl, lenE_nils, lenE_sl0, bound, rep, minE, maxE, Option.getD_some, Option.getD_none, isKey, nlS, List.getElem?_cons_zero, List.getElem?_cons_succ, get_lt, set_lt, get_len, get_len_add, set_len, set_len_add, List.append_assoc, List.cons_append, List.nil_append, -getElem?_pos, ow.len]
  refine WPl.inv2 (fun m fr h' => ∃ k : Nat, k ≤ 7 ∧ m = 7 - k ∧ h'[h0.length]? = some (.map (esF k)) ∧ Ow (h0.length + 1) h' 3 encI w [1, 2, 3, 4, 5, 6, 7] ∧
    fr = [(0, some (.s (.int .i64 n))), (1, some (.s (.str s))), (5, some (.s (.mp h0.length))), (6, some (.s (.int .i64 (cF k)))), (18, some (.s w)), (19, some (.s (.int .i64 7))), (20, some (.s (.int .i64 k)))]) ?_ _ _ _ ⟨0, by omega, rfl, hm1, ow1, rfl⟩
  rintro I hI m fr h' ⟨k, hk, rfl, hm, ow2, rfl⟩
  refine ⟨by simp [keepF, fget], ?_⟩
  by_cases hlt : k < 7
  · have hlt' : (k : Int) < 7 := by omega
    obtain ⟨i, p, o, ob, vs, rfl, q2, q3, q4⟩ := (ow2.rd encI_len (z := 1)).int (k := k) hlt
    have w3 : IntKind.i64.wrap ((k : Int) + 1) = ((k + 1 : Nat) : Int) := wrap_small (by omega) (by omega)
    have e1 : ([1, 2, 3, 4, 5, 6, 7] : List Int)[k] = ((k + 1 : Nat) : Int) := by
      have h : k = 0 ∨ k = 1 ∨ k = 2 ∨ k = 3 ∨ k = 4 ∨ k = 5 ∨ k = 6 := by omega
      rcases h with rfl | rfl | rfl | rfl | rfl | rfl | rfl <;> rfl
    rw [e1] at q4
    obtain ⟨x, r1, r2, r3, r4, r5, r6⟩ := round_F hlt
    rw [show ((k + 1 : Nat) : Int) = (k : Int) + 1 from rfl] at r1 r3 r6 q4
    obtain ⟨c1, c2⟩ := cF_small hlt
    have r2a : x.toList.isEmpty = false := by simpa using r2
    have r2b : ¬ x.toList = [] := by simpa using r2
    have w4 : IntKind.i64.wrap (cF k + 1) = cF k + 1 := wrap_small (by omega) (by omega)
    simp [wpk_skip, wpk_seq, k_cond, wpk_block, wpk_exit, wpk_ret, wpk_goto, wpk_label, wpk_loop, k_ops, k_draw0, t_nil, t_cons, KT_eq, KD_eq, wpo_nil, k_cons, k_step, mt_some, mtk_some, KO_eq, KP_eq, K_normal, K_ret, K_exit, KB_normal, KB_ret, KB_exit, KL_normal, KL_ret, KL_exit, K_goto, KB_goto, KL_goto, KS_goto, KS_ret, KS_normal, KS_exit, k_ret, k_normal, stepE, isCall, calleeE, opE, wantE, odE, odS, odL, odSL, fget, fput, initE, keepF, List.map_cons, List.map_nil, binE, intOp, strOp, shOp, unE, eqpE, eqnE, neqB, ressE, resE, packL, packE, flat1, fcells, fillE, setL, cellsOf_bind, cellsO_own, cellsO_ro, lenE_sl, lenE_nils, lenE_sl0, bound, rep, minE, maxE, Option.getD_some, Option.getD_none, isKey, nlS, List.getElem?_cons_zero, List.getElem?_cons_succ, get_lt, set_lt, get_len, get_len_add, set_len, set_len_add, List.append_assoc, List.cons_append, List.nil_append, -getElem?_pos, l13_0_2, l13_0_1, l13_0, hlt, hlt', q2, q3, q4]
    refine WPc.go (name_ok _ _) ?_
    rintro _ h2 ⟨g2, rfl⟩
    rw [r1]
    simp [wpk_skip, wpk_seq, k_cond, wpk_block, wpk_exit, wpk_ret, wpk_goto, wpk_label, wpk_loop, k_ops, k_draw0, t_nil, t_cons, KT_eq, KD_eq, wpo_nil, k_cons, k_step, mt_some, mtk_some, KO_eq, KP_eq, K_normal, K_ret, K_exit, KB_normal, KB_ret, KB_exit, KL_normal, KL_ret, KL_exit, K_goto, KB_goto, KL_goto, KS_goto, KS_ret, KS_normal, KS_exit, k_ret, k_normal, stepE, isCall, calleeE, opE, wantE, odE, odS, odL, odSL, fget, fput, initE, keepF, List.map_cons, List.map_nil, binE, intOp, strOp, shOp, unE, eqpE, eqnE, neqB, ressE, resE, packL, packE, flat1, fcells, fillE, setL, cellsOf_bind, cellsO_own, cellsO_ro, lenE_sl, lenE_nils, lenE_sl0, bound, rep, minE, maxE, Option.getD_some, Option.getD_none, isKey, nlS, List.getElem?_cons_zero, List.getElem?_cons_succ, get_lt, set_lt, get_len, get_len_add, set_len, set_len_add, List.append_assoc, List.cons_append, List.nil_append, -getElem?_pos, ]
    refine WPc.go (of_ok x _) ?_
    rintro _ h3 ⟨g3, rfl⟩
    rw [r3]
    have hm3 := g3.get (g2.get hm)
    have ow3 := (ow2.gr g2).gr g3
    have hl3 := lt_of_some hm3
    have hs := ow3.set (Nat.lt_succ_self h0.length) (.map (esF (k + 1)))
    have hmm : (h3.set h0.length (.map (esF (k + 1))))[h0.length]? = some (.map (esF (k + 1))) := get_self hl3
    have fin : ∀ c, c = cF (k + 1) → ∃ m, m < 7 - k ∧ I m [(0, some (.s (.int .i64 n))), (1, some (.s (.str s))), (5, some (.s (.mp h0.length))), (6, some (.s (.int .i64 c))), (18, some (.s (.sl i p o [(1 : Int), 2, 3, 4, 5, 6, 7].length))), (19, some (.s (.int .i64 7))), (20, some (.s (.int .i64 ((k : Int) + 1))))] (h3.set h0.length (.map (esF (k + 1)))) := by
      rintro c rfl
      exact ⟨_, by omega, hI _ _ _ ⟨k + 1, by omega, rfl, hmm, hs, rfl⟩⟩
    rcases r6 with ⟨r6, r7⟩ | ⟨r6, r7⟩
    · have := fin (cF k + 1) r7.symm
      simp [wpk_skip, wpk_seq, k_cond, wpk_block, wpk_exit, wpk_ret, wpk_goto, wpk_label, wpk_loop, k_ops, k_draw0, t_nil, t_cons, KT_eq, KD_eq, wpo_nil, k_cons, k_step, mt_some, mtk_some, KO_eq, KP_eq, K_normal, K_ret, K_exit, KB_normal, KB_ret, KB_exit, KL_normal, KL_ret, KL_exit, K_goto, KB_goto, KL_goto, KS_goto, KS_ret, KS_normal, KS_exit, k_ret, k_normal, stepE, isCall, calleeE, opE, wantE, odE, odS, odL, odSL, fget, fput, initE, keepF, List.map_cons, List.map_nil, binE, intOp, strOp, shOp, unE, eqpE, eqnE, neqB, ressE, resE, packL, packE, flat1, fcells, fillE, setL, cellsOf_bind, cellsO_own, cellsO_ro, lenE_sl, lenE_nils, lenE_sl0, bound, rep, minE, maxE, Option.getD_some, Option.getD_none, isKey, nlS, List.getElem?_cons_zero, List.getElem?_cons_succ, get_lt, set_lt, get_len, get_len_add, set_len, set_len_add, List.append_assoc, List.cons_append, List.nil_append, -getElem?_pos, r2a, r2b, r4, r5, hm3, cost_ok, r6, w3, w4]
      exact this
    · have := fin (cF k) r7.symm
      simp [wpk_skip, wpk_seq, k_cond, wpk_block, wpk_exit, wpk_ret, wpk_goto, wpk_label, wpk_loop, k_ops, k_draw0, t_nil, t_cons, KT_eq, KD_eq, wpo_nil, k_cons, k_step, mt_some, mtk_some, KO_eq, KP_eq, K_normal, K_ret, K_exit, KB_normal, KB_ret, KB_exit, KL_normal, KL_ret, KL_exit, K_goto, KB_goto, KL_goto, KS_goto, KS_ret, KS_normal, KS_exit, k_ret, k_normal, stepE, isCall, calleeE, opE, wantE, odE, odS, odL, odSL, fget, fput, initE, keepF, List.map_cons, List.map_nil, binE, intOp, strOp, shOp, unE, eqpE, eqnE, neqB, ressE, resE, packL, packE, flat1, fcells, fillE, setL, cellsOf_bind, cellsO_own, cellsO_ro, lenE_sl, lenE_nils, lenE_sl0, bound, rep, minE, maxE, Option.getD_some, Option.getD_none, isKey, nlS, List.getElem?_cons_zero, List.getElem?_cons_succ, get_lt, set_lt, get_len, get_len_add, set_len, set_len_add, List.append_assoc, List.cons_append, List.nil_append, -getElem?_pos, r2a, r2b, r4, r5, hm3, cost_ok, r6, w3, w4]
      exact this
  · obtain rfl : k = 7 := by omega
    obtain ⟨t, ht⟩ := text_ok s h'
    simp [wpk_skip, wpk_seq, k_cond, wpk_block, wpk_exit, wpk_ret, wpk_goto, wpk_label, wpk_loop, k_ops, k_draw0, t_nil, t_cons, KT_eq, KD_eq, wpo_nil, k_cons, k_step, mt_some, mtk_some, KO_eq, KP_eq, K_normal, K_ret, K_exit, KB_normal, KB_ret, KB_exit, KL_normal, KL_ret, KL_exit, K_goto, KB_goto, KL_goto, KS_goto, KS_ret, KS_normal, KS_exit, k_ret, k_normal, stepE, isCall, calleeE, opE, wantE, odE, odS, odL, odSL, fget, fput, initE, keepF, List.map_cons, List.map_nil, binE, intOp, strOp, shOp, unE, eqpE, eqnE, neqB, ressE, resE, packL, packE, flat1, fcells, fillE, setL, cellsOf_bind, cellsO_own, cellsO_ro, lenE_sl, lenE_nils, lenE_sl0, bound, rep, minE, maxE, Option.getD_some, Option.getD_none, isKey, nlS, List.getElem?_cons_zero, List.getElem?_cons_succ, get_lt, set_lt, get_len, get_len_add, set_len, set_len_add, List.append_assoc, List.cons_append, List.nil_append, -getElem?_pos, l13_0_2, l13_0_1, l13_0, ht]
    refine WPc.go (of_ok t _) ?_
    rintro _ h2 ⟨g2, rfl⟩
    simp [wpk_skip, wpk_seq, k_cond, wpk_block, wpk_exit, wpk_ret, wpk_goto, wpk_label, wpk_loop, k_ops, k_draw0, t_nil, t_cons, KT_eq, KD_eq, wpo_nil, k_cons, k_step, mt_some, mtk_some, KO_eq, KP_eq, K_normal, K_ret, K_exit, KB_normal, KB_ret, KB_exit, KL_normal, KL_ret, KL_exit, K_goto, KB_goto, KL_goto, KS_goto, KS_ret, KS_normal, KS_exit, k_ret, k_normal, stepE, isCall, calleeE, opE, wantE, odE, odS, odL, odSL, fget, fput, initE, keepF, List.map_cons, List.map_nil, binE, intOp, strOp, shOp, unE, eqpE, eqnE, neqB, ressE, resE, packL, packE, flat1, fcells, fillE, setL, cellsOf_bind, cellsO_own, cellsO_ro, lenE_sl, lenE_nils, lenE_sl0, bound, rep, minE, maxE, Option.getD_some, Option.getD_none, isKey, nlS, List.getElem?_cons_zero, List.getElem?_cons_succ, get_lt, set_lt, get_len, get_len_add, set_len, set_len_add, List.append_assoc, List.cons_append, List.nil_append, -getElem?_pos, ]
    refine WPc.go (of_ok ⟨#[]⟩ _) ?_
    rintro _ h3 ⟨g3, rfl⟩
    have hm3 := g3.get (g2.get hm)
    have e0 : ofF ⟨#[]⟩ = (0, false) := by decide +kernel
    have e7 : (esF 7).length = 7 := rfl
    have c7 : cF 7 = 3 := rfl
    obtain ⟨r, r1, r2, r3⟩ := seen_F t
    have hr : r.getD (.bool false) = .bool r.isSome := by rcases r3 with rfl | rfl <;> rfl
    have bb : (r.isSome == r.isSome) = true := by simp
    have fin2 : ∀ (h4 : LH) (y : Fr), True := fun _ _ => trivial
    by_cases hn : 1 ≤ n
    · by_cases hn7 : n ≤ 7
      · have hd : decide (1 ≤ n ∧ n ≤ 7) = true := decide_eq_true ⟨hn, hn7⟩
        have hni := name_in' n
        rw [hd] at hni
        simp only [Bool.not_true, Bool.not_false] at hni
        have hg : n ≥ 1 := hn
        simp [wpk_skip, wpk_seq, k_cond, wpk_block, wpk_exit, wpk_ret, wpk_goto, wpk_label, wpk_loop, k_ops, k_draw0, t_nil, t_cons, KT_eq, KD_eq, wpo_nil, k_cons, k_step, mt_some, mtk_some, KO_eq, KP_eq, K_normal, K_ret, K_exit, KB_normal, KB_ret, KB_exit, KL_normal, KL_ret, KL_exit, K_goto, KB_goto, KL_goto, KS_goto, KS_ret, KS_normal, KS_exit, k_ret, k_normal, stepE, isCall, calleeE, opE, wantE, odE, odS, odL, odSL, fget, fput, initE, keepF, List.map_cons, List.map_nil, binE, intOp, strOp, shOp, unE, eqpE, eqnE, neqB, ressE, resE, packL, packE, flat1, fcells, fillE, setL, cellsOf_bind, cellsO_own, cellsO_ro, lenE_sl, lenE_nils, lenE_sl0, bound, rep, minE, maxE, Option.getD_some, Option.getD_none, isKey, nlS, List.getElem?_cons_zero, List.getElem?_cons_succ, get_lt, set_lt, get_len, get_len_add, set_len, set_len_add, List.append_assoc, List.cons_append, List.nil_append, -getElem?_pos, e0, hm3, e7, c7, r1, r2, hr, bb, hn, hn7, hg]
        refine WPc.go (name_ok n _) ?_
        rintro _ h4 ⟨g4, rfl⟩
        simp [wpk_skip, wpk_seq, k_cond, wpk_block, wpk_exit, wpk_ret, wpk_goto, wpk_label, wpk_loop, k_ops, k_draw0, t_nil, t_cons, KT_eq, KD_eq, wpo_nil, k_cons, k_step, mt_some, mtk_some, KO_eq, KP_eq, K_normal, K_ret, K_exit, KB_normal, KB_ret, KB_exit, KL_normal, KL_ret, KL_exit, K_goto, KB_goto, KL_goto, KS_goto, KS_ret, KS_normal, KS_exit, k_ret, k_normal, stepE, isCall, calleeE, opE, wantE, odE, odS, odL, odSL, fget, fput, initE, keepF, List.map_cons, List.map_nil, binE, intOp, strOp, shOp, unE, eqpE, eqnE, neqB, ressE, resE, packL, packE, flat1, fcells, fillE, setL, cellsOf_bind, cellsO_own, cellsO_ro, lenE_sl, lenE_nils, lenE_sl0, bound, rep, minE, maxE, Option.getD_some, Option.getD_none, isKey, nlS, List.getElem?_cons_zero, List.getElem?_cons_succ, get_lt, set_lt, get_len, get_len_add, set_len, set_len_add, List.append_assoc, List.cons_append, List.nil_append, -getElem?_pos, hni]
        refine WPc.go (wakes_ok _) ?_
        rintro _ h5 ⟨_, rfl⟩
        simp [wpk_skip, wpk_seq, k_cond, wpk_block, wpk_exit, wpk_ret, wpk_goto, wpk_label, wpk_loop, k_ops, k_draw0, t_nil, t_cons, KT_eq, KD_eq, wpo_nil, k_cons, k_step, mt_some, mtk_some, KO_eq, KP_eq, K_normal, K_ret, K_exit, KB_normal, KB_ret, KB_exit, KL_normal, KL_ret, KL_exit, K_goto, KB_goto, KL_goto, KS_goto, KS_ret, KS_normal, KS_exit, k_ret, k_normal, stepE, isCall, calleeE, opE, wantE, odE, odS, odL, odSL, fget, fput, initE, keepF, List.map_cons, List.map_nil, binE, intOp, strOp, shOp, unE, eqpE, eqnE, neqB, ressE, resE, packL, packE, flat1, fcells, fillE, setL, cellsOf_bind, cellsO_own, cellsO_ro, lenE_sl, lenE_nils, lenE_sl0, bound, rep, minE, maxE, Option.getD_some, Option.getD_none, isKey, nlS, List.getElem?_cons_zero, List.getElem?_cons_succ, get_lt, set_lt, get_len, get_len_add, set_len, set_len_add, List.append_assoc, List.cons_append, List.nil_append, -getElem?_pos, ]
        exact hΨ _ _ rfl
      · have hd : decide (1 ≤ n ∧ n ≤ 7) = false := decide_eq_false (by omega)
        have hni := name_in' n
        rw [hd] at hni
        simp only [Bool.not_true, Bool.not_false] at hni
        have hg : n ≥ 1 := hn
        have hcn : costF n = false := by unfold costF; simp; omega
        simp [wpk_skip, wpk_seq, k_cond, wpk_block, wpk_exit, wpk_ret, wpk_goto, wpk_label, wpk_loop, k_ops, k_draw0, t_nil, t_cons, KT_eq, KD_eq, wpo_nil, k_cons, k_step, mt_some, mtk_some, KO_eq, KP_eq, K_normal, K_ret, K_exit, KB_normal, KB_ret, KB_exit, KL_normal, KL_ret, KL_exit, K_goto, KB_goto, KL_goto, KS_goto, KS_ret, KS_normal, KS_exit, k_ret, k_normal, stepE, isCall, calleeE, opE, wantE, odE, odS, odL, odSL, fget, fput, initE, keepF, List.map_cons, List.map_nil, binE, intOp, strOp, shOp, unE, eqpE, eqnE, neqB, ressE, resE, packL, packE, flat1, fcells, fillE, setL, cellsOf_bind, cellsO_own, cellsO_ro, lenE_sl, lenE_nils, lenE_sl0, bound, rep, minE, maxE, Option.getD_some, Option.getD_none, isKey, nlS, List.getElem?_cons_zero, List.getElem?_cons_succ, get_lt, set_lt, get_len, get_len_add, set_len, set_len_add, List.append_assoc, List.cons_append, List.nil_append, -getElem?_pos, e0, hm3, e7, c7, r1, r2, hr, bb, hn, hn7, hg]
        refine WPc.go (name_ok n _) ?_
        rintro _ h4 ⟨g4, rfl⟩
        simp [wpk_skip, wpk_seq, k_cond, wpk_block, wpk_exit, wpk_ret, wpk_goto, wpk_label, wpk_loop, k_ops, k_draw0, t_nil, t_cons, KT_eq, KD_eq, wpo_nil, k_cons, k_step, mt_some, mtk_some, KO_eq, KP_eq, K_normal, K_ret, K_exit, KB_normal, KB_ret, KB_exit, KL_normal, KL_ret, KL_exit, K_goto, KB_goto, KL_goto, KS_goto, KS_ret, KS_normal, KS_exit, k_ret, k_normal, stepE, isCall, calleeE, opE, wantE, odE, odS, odL, odSL, fget, fput, initE, keepF, List.map_cons, List.map_nil, binE, intOp, strOp, shOp, unE, eqpE, eqnE, neqB, ressE, resE, packL, packE, flat1, fcells, fillE, setL, cellsOf_bind, cellsO_own, cellsO_ro, lenE_sl, lenE_nils, lenE_sl0, bound, rep, minE, maxE, Option.getD_some, Option.getD_none, isKey, nlS, List.getElem?_cons_zero, List.getElem?_cons_succ, get_lt, set_lt, get_len, get_len_add, set_len, set_len_add, List.append_assoc, List.cons_append, List.nil_append, -getElem?_pos, hni, cost_ok, hcn]
        refine WPc.go (wakes_ok _) ?_
        rintro _ h5 ⟨_, rfl⟩
        simp [wpk_skip, wpk_seq, k_cond, wpk_block, wpk_exit, wpk_ret, wpk_goto, wpk_label, wpk_loop, k_ops, k_draw0, t_nil, t_cons, KT_eq, KD_eq, wpo_nil, k_cons, k_step, mt_some, mtk_some, KO_eq, KP_eq, K_normal, K_ret, K_exit, KB_normal, KB_ret, KB_exit, KL_normal, KL_ret, KL_exit, K_goto, KB_goto, KL_goto, KS_goto, KS_ret, KS_normal, KS_exit, k_ret, k_normal, stepE, isCall, calleeE, opE, wantE, odE, odS, odL, odSL, fget, fput, initE, keepF, List.map_cons, List.map_nil, binE, intOp, strOp, shOp, unE, eqpE, eqnE, neqB, ressE, resE, packL, packE, flat1, fcells, fillE, setL, cellsOf_bind, cellsO_own, cellsO_ro, lenE_sl, lenE_nils, lenE_sl0, bound, rep, minE, maxE, Option.getD_some, Option.getD_none, isKey, nlS, List.getElem?_cons_zero, List.getElem?_cons_succ, get_lt, set_lt, get_len, get_len_add, set_len, set_len_add, List.append_assoc, List.cons_append, List.nil_append, -getElem?_pos, ]
        exact hΨ _ _ rfl
    · have hd : decide (1 ≤ n ∧ n ≤ 7) = false := decide_eq_false (by omega)
      have hni := name_in' n
      rw [hd] at hni
      simp only [Bool.not_true, Bool.not_false] at hni
      have hg : ¬ n ≥ 1 := hn
      have hcn : costF n = false := by unfold costF; simp; omega
      simp [wpk_skip, wpk_seq, k_cond, wpk_block, wpk_exit, wpk_ret, wpk_goto, wpk_label, wpk_loop, k_ops, k_draw0, t_nil, t_cons, KT_eq, KD_eq, wpo_nil, k_cons, k_step, mt_some, mtk_some, KO_eq, KP_eq, K_normal, K_ret, K_exit, KB_normal, KB_ret, KB_exit, KL_normal, KL_ret, KL_exit, K_goto, KB_goto, KL_goto, KS_goto, KS_ret, KS_normal, KS_exit, k_ret, k_normal, stepE, isCall, calleeE, opE, wantE, odE, odS, odL, odSL, fget, fput, initE, keepF, List.map_cons, List.map_nil, binE, intOp, strOp, shOp, unE, eqpE, eqnE, neqB, ressE, resE, packL, packE, flat1, fcells, fillE, setL, cellsOf_bind, cellsO_own, cellsO_ro, lenE_sl, lenE_nils, lenE_sl0, bound, rep, minE, maxE, Option.getD_some, Option.getD_none, isKey, nlS, List.getElem?_cons_zero, List.getElem?_cons_succ, get_lt, set_lt, get_len, get_len_add, set_len, set_len_add, List.append_assoc, List.cons_append, List.nil_append, -getElem?_pos, e0, hm3, e7, c7, r1, r2, hr, bb, hn, hg]
      refine WPc.go (name_ok n _) ?_
      rintro _ h4 ⟨g4, rfl⟩
      simp [wpk_skip, wpk_seq, k_cond, wpk_block, wpk_exit, wpk_ret, wpk_goto, wpk_label, wpk_loop, k_ops, k_draw0, t_nil, t_cons, KT_eq, KD_eq, wpo_nil, k_cons, k_step, mt_some, mtk_some, KO_eq, KP_eq, K_normal, K_ret, K_exit, KB_normal, KB_ret, KB_exit, KL_normal, KL_ret, KL_exit, K_goto, KB_goto, KL_goto, KS_goto, KS_ret, KS_normal, KS_exit, k_ret, k_normal, stepE, isCall, calleeE, opE, wantE, odE, odS, odL, odSL, fget, fput, initE, keepF, List.map_cons, List.map_nil, binE, intOp, strOp, shOp, unE, eqpE, eqnE, neqB, ressE, resE, packL, packE, flat1, fcells, fillE, setL, cellsOf_bind, cellsO_own, cellsO_ro, lenE_sl, lenE_nils, lenE_sl0, bound, rep, minE, maxE, Option.getD_some, Option.getD_none, isKey, nlS, List.getElem?_cons_zero, List.getElem?_cons_succ, get_lt, set_lt, get_len, get_len_add, set_len, set_len_add, List.append_assoc, List.cons_append, List.nil_append, -getElem?_pos, hni, cost_ok, hcn]
      refine WPc.go (wakes_ok _) ?_
      rintro _ h5 ⟨_, rfl⟩
      simp [wpk_skip, wpk_seq, k_cond, wpk_block, wpk_exit, wpk_ret, wpk_goto, wpk_label, wpk_loop, k_ops, k_draw0, t_nil, t_cons, KT_eq, KD_eq, wpo_nil, k_cons, k_step, mt_some, mtk_some, KO_eq, KP_eq, K_normal, K_ret, K_exit, KB_normal, KB_ret, KB_exit, KL_normal, KL_ret, KL_exit, K_goto, KB_goto, KL_goto, KS_goto, KS_ret, KS_normal, KS_exit, k_ret, k_normal, stepE, isCall, calleeE, opE, wantE, odE, odS, odL, odSL, fget, fput, initE, keepF, List.map_cons, List.map_nil, binE, intOp, strOp, shOp, unE, eqpE, eqnE, neqB, ressE, resE, packL, packE, flat1, fcells, fillE, setL, cellsOf_bind, cellsO_own, cellsO_ro, lenE_sl, lenE_nils, lenE_sl0, bound, rep, minE, maxE, Option.getD_some, Option.getD_none, isKey, nlS, List.getElem?_cons_zero, List.getElem?_cons_succ, get_lt, set_lt, get_len, get_len_add, set_len, set_len_add, List.append_assoc, List.cons_append, List.nil_append, -getElem?_pos, ]
      exact hΨ _ _ rfl
end Go.Proofs.Ytfnihfcdoibleaa.Ev.CH
