/- ChartTells on the small machine. -/
import Derived.Test.YtfnihfcdoibleaaChartA
import Derived.Test.YtfnihfcdoibleaaEvRow
set_option linter.unusedSimpArgs false
set_option linter.unusedVariables false
namespace Go.Proofs.Ytfnihfcdoibleaa.Ev.CH
open Go

theorem within_ok (v n : Int) (hn : 1 ≤ n ∧ n ≤ 1000000000000) (h : LH) : callX C 16 [.s (.int .i64 v), .s (.int .i64 n)] h = some (.s (.int .i64 (v % n)), h) := by
  apply callX_wp
  refine WPc.intro (e := e16) rfl (by simp [e16]) ?_
  show WPk C b16 _ _ (KR [.tmp 4] _)
  have h1 : ¬ (n < 1) := by omega
  have h2 : ¬ (n = 0) := by omega
  have q1 := Int.tmod_lt_of_pos v (show 0 < n by omega)
  have q2 := Int.lt_tmod_of_pos v (show 0 < n by omega)
  have key : v.tmod n = if v.tmod n < 0 then v % n - n else v % n := by
    have e : v % n = (v.tmod n) % n := by
      have h := Int.mul_tdiv_add_tmod v n
      calc v % n = (n * v.tdiv n + v.tmod n) % n := by rw [h]
        _ = (v.tmod n) % n := by rw [Int.add_comm, Int.add_mul_emod_self_left]
    split
    · have : (v.tmod n) % n = v.tmod n + n := by
        rw [← Int.add_emod_right, Int.emod_eq_of_lt (by omega) (by omega)]
      omega
    · rw [e, Int.emod_eq_of_lt (by omega) (by omega)]
  have hlt := Int.emod_lt_of_pos v (show 0 < n by omega)
  have hge := Int.emod_nonneg v (show n ≠ 0 by omega)
  by_cases hk : v.tmod n < 0
  · rw [if_pos hk] at key
    have hw : IntKind.i64.wrap (v.tmod n + n) = v % n := by rw [wrap_small (by omega) (by omega)]; omega
    simp [wpk_skip, wpk_seq, k_cond, wpk_block, wpk_exit, wpk_ret, wpk_loop, k_ops, k_draw0, t_nil, t_cons, KT_eq, KD_eq, wpo_nil, k_cons, k_step, mt_some, mtk_some, KO_eq, KP_eq, K_normal, K_ret, K_exit, KB_normal, KB_ret, KB_exit, KL_normal, KL_ret, KL_exit, k_ret, k_normal, stepE, isCall, calleeE, opE, wantE, odE, odS, odL, odSL, fget, fput, initE, keepF, List.map_cons, List.map_nil, binE, intOp, strOp, shOp, unE, eqpE, eqnE, neqB, ressE, resE, packL, packE, flat1, fcells, fillE, setL, cellsOf_bind, cellsO_own, cellsO_ro, lenE_sl, lenE_nils, lenE_sl0, bound, rep, minE, maxE, List.getElem?_cons_zero, List.getElem?_cons_succ, get_lt, set_lt, get_len, get_len_add, set_len, set_len_add, List.append_assoc, List.cons_append, List.nil_append, -getElem?_pos, b16, s16_4, s16_3, s16_2, s16_1, h1, h2, hk, hw]
  · rw [if_neg hk] at key
    simp [wpk_skip, wpk_seq, k_cond, wpk_block, wpk_exit, wpk_ret, wpk_loop, k_ops, k_draw0, t_nil, t_cons, KT_eq, KD_eq, wpo_nil, k_cons, k_step, mt_some, mtk_some, KO_eq, KP_eq, K_normal, K_ret, K_exit, KB_normal, KB_ret, KB_exit, KL_normal, KL_ret, KL_exit, k_ret, k_normal, stepE, isCall, calleeE, opE, wantE, odE, odS, odL, odSL, fget, fput, initE, keepF, List.map_cons, List.map_nil, binE, intOp, strOp, shOp, unE, eqpE, eqnE, neqB, ressE, resE, packL, packE, flat1, fcells, fillE, setL, cellsOf_bind, cellsO_own, cellsO_ro, lenE_sl, lenE_nils, lenE_sl0, bound, rep, minE, maxE, List.getElem?_cons_zero, List.getElem?_cons_succ, get_lt, set_lt, get_len, get_len_add, set_len, set_len_add, List.append_assoc, List.cons_append, List.nil_append, -getElem?_pos, b16, s16_4, s16_3, s16_2, s16_1, h1, h2, hk]
    exact key


theorem same_ok {h : LH} {v w : SV} {l m : List Int} (r : Rd h 3 1 encI v l) (q : Rd h 3 1 encI w m) (hl : l.length < 1000000) : callX C 20 [.s v, .s w] h = some (.s (.bool (decide (l = m))), h) := by
  apply callX_wp
  refine WPc.intro (e := e20) rfl (by simp [e20]) ?_
  show WPk C b20 _ _ (KR [.tmp 4] _)
  by_cases hlen : l.length = m.length
  · have hlen' : ((l.length : Int) != m.length) = false := by simp [hlen]
    simp [wpk_skip, wpk_seq, k_cond, wpk_block, wpk_exit, wpk_ret, wpk_loop, k_ops, k_draw0, t_nil, t_cons, KT_eq, KD_eq, wpo_nil, k_cons, k_step, mt_some, mtk_some, KO_eq, KP_eq, K_normal, K_ret, K_exit, KB_normal, KB_ret, KB_exit, KL_normal, KL_ret, KL_exit, k_ret, k_normal, stepE, isCall, calleeE, opE, wantE, odE, odS, odL, odSL, fget, fput, initE, keepF, List.map_cons, List.map_nil, binE, intOp, strOp, shOp, unE, eqpE, eqnE, neqB, ressE, resE, packL, packE, flat1, fcells, fillE, setL, cellsOf_bind, cellsO_own, cellsO_ro, lenE_sl, lenE_nils, lenE_sl0, bound, rep, minE, maxE, List.getElem?_cons_zero, List.getElem?_cons_succ, get_lt, set_lt, get_len, get_len_add, set_len, set_len_add, List.append_assoc, List.cons_append, List.nil_append, -getElem?_pos, b20, s20_3, s20_2, s20_1, r.len, q.len, hlen']
    refine WPl.inv (fun n fr h' => h' = h ∧ ∃ k, k ≤ l.length ∧ n = l.length - k ∧ l.take k = m.take k ∧ fr = [(0, some (.s v)), (1, some (.s w)), (5, some (.s (.int .i64 k)))]) ?_ _ _ _ ⟨rfl, 0, Nat.zero_le _, rfl, by simp, by simp⟩
    rintro n fr h' ⟨rfl, k, hk, rfl, ht, rfl⟩
    refine ⟨by simp [keepF, fget], ?_⟩
    have rl := r.len
    have ql := q.len
    by_cases hlt : k < l.length
    · obtain ⟨i, p, o, ob, vs, rfl, q2, q3, q4⟩ := r.int hlt
      obtain ⟨i', p', o', ob', vs', rfl, u2, u3, u4⟩ := q.int (k := k) (by omega)
      have hlt' : k < m.length := by omega
      have w3 : IntKind.i64.wrap ((k : Int) + 1) = ((k + 1 : Nat) : Int) := wrap_small (by omega) (by omega)
      by_cases hv : l[k] = m[k]
      · have hv' : (l[k] != m[k]) = false := by simp [hv]
        simp [wpk_skip, wpk_seq, k_cond, wpk_block, wpk_exit, wpk_ret, wpk_loop, k_ops, k_draw0, t_nil, t_cons, KT_eq, KD_eq, wpo_nil, k_cons, k_step, mt_some, mtk_some, KO_eq, KP_eq, K_normal, K_ret, K_exit, KB_normal, KB_ret, KB_exit, KL_normal, KL_ret, KL_exit, k_ret, k_normal, stepE, isCall, calleeE, opE, wantE, odE, odS, odL, odSL, fget, fput, initE, keepF, List.map_cons, List.map_nil, binE, intOp, strOp, shOp, unE, eqpE, eqnE, neqB, ressE, resE, packL, packE, flat1, fcells, fillE, setL, cellsOf_bind, cellsO_own, cellsO_ro, lenE_sl, lenE_nils, lenE_sl0, bound, rep, minE, maxE, List.getElem?_cons_zero, List.getElem?_cons_succ, get_lt, set_lt, get_len, get_len_add, set_len, set_len_add, List.append_assoc, List.cons_append, List.nil_append, -getElem?_pos, l20_0_1, l20_0, hlt, hlt', q2, q3, q4, u2, u3, u4, hv', w3]
        exact ⟨_, by omega, k + 1, hlt, rfl, by rw [List.take_succ_eq_append_getElem hlt, List.take_succ_eq_append_getElem hlt', ht, hv], rfl⟩
      · have hv' : (l[k] != m[k]) = true := by simp [hv]
        have hne : l ≠ m := fun e => hv (by subst e; rfl)
        simp [wpk_skip, wpk_seq, k_cond, wpk_block, wpk_exit, wpk_ret, wpk_loop, k_ops, k_draw0, t_nil, t_cons, KT_eq, KD_eq, wpo_nil, k_cons, k_step, mt_some, mtk_some, KO_eq, KP_eq, K_normal, K_ret, K_exit, KB_normal, KB_ret, KB_exit, KL_normal, KL_ret, KL_exit, k_ret, k_normal, stepE, isCall, calleeE, opE, wantE, odE, odS, odL, odSL, fget, fput, initE, keepF, List.map_cons, List.map_nil, binE, intOp, strOp, shOp, unE, eqpE, eqnE, neqB, ressE, resE, packL, packE, flat1, fcells, fillE, setL, cellsOf_bind, cellsO_own, cellsO_ro, lenE_sl, lenE_nils, lenE_sl0, bound, rep, minE, maxE, List.getElem?_cons_zero, List.getElem?_cons_succ, get_lt, set_lt, get_len, get_len_add, set_len, set_len_add, List.append_assoc, List.cons_append, List.nil_append, -getElem?_pos, l20_0_1, l20_0, hlt, hlt', q2, q3, q4, u2, u3, u4, hv', w3, hne]
    · obtain rfl : k = l.length := by omega
      have he : l = m := by rw [List.take_length, List.take_of_length_le (by omega)] at ht; exact ht
      simp [wpk_skip, wpk_seq, k_cond, wpk_block, wpk_exit, wpk_ret, wpk_loop, k_ops, k_draw0, t_nil, t_cons, KT_eq, KD_eq, wpo_nil, k_cons, k_step, mt_some, mtk_some, KO_eq, KP_eq, K_normal, K_ret, K_exit, KB_normal, KB_ret, KB_exit, KL_normal, KL_ret, KL_exit, k_ret, k_normal, stepE, isCall, calleeE, opE, wantE, odE, odS, odL, odSL, fget, fput, initE, keepF, List.map_cons, List.map_nil, binE, intOp, strOp, shOp, unE, eqpE, eqnE, neqB, ressE, resE, packL, packE, flat1, fcells, fillE, setL, cellsOf_bind, cellsO_own, cellsO_ro, lenE_sl, lenE_nils, lenE_sl0, bound, rep, minE, maxE, List.getElem?_cons_zero, List.getElem?_cons_succ, get_lt, set_lt, get_len, get_len_add, set_len, set_len_add, List.append_assoc, List.cons_append, List.nil_append, -getElem?_pos, l20_0_1, l20_0, hlt, rl, he]
  · have hlen' : ((l.length : Int) != m.length) = true := by simp; omega
    have hne : l ≠ m := fun e => hlen (by rw [e])
    simp [wpk_skip, wpk_seq, k_cond, wpk_block, wpk_exit, wpk_ret, wpk_loop, k_ops, k_draw0, t_nil, t_cons, KT_eq, KD_eq, wpo_nil, k_cons, k_step, mt_some, mtk_some, KO_eq, KP_eq, K_normal, K_ret, K_exit, KB_normal, KB_ret, KB_exit, KL_normal, KL_ret, KL_exit, k_ret, k_normal, stepE, isCall, calleeE, opE, wantE, odE, odS, odL, odSL, fget, fput, initE, keepF, List.map_cons, List.map_nil, binE, intOp, strOp, shOp, unE, eqpE, eqnE, neqB, ressE, resE, packL, packE, flat1, fcells, fillE, setL, cellsOf_bind, cellsO_own, cellsO_ro, lenE_sl, lenE_nils, lenE_sl0, bound, rep, minE, maxE, List.getElem?_cons_zero, List.getElem?_cons_succ, get_lt, set_lt, get_len, get_len_add, set_len, set_len_add, List.append_assoc, List.cons_append, List.nil_append, -getElem?_pos, b20, s20_3, s20_2, s20_1, r.len, q.len, hlen', hne]


/-- What the law finds: the last place from the second on. -/
def lastF (s : ByteArray) : Nat → Int × Bool → List ByteArray → Int × Bool
  | _, st, [] => st
  | k, st, x :: r => lastF s (k + 1) (if 0 < (k : Int) ∧ (x.toList == s.toList) = true then ((k : Int), true) else st) r
theorem last_first (s : ByteArray) : lastF s 0 (0, false) nm = ofF s := by
  have key : ∀ b : List UInt8, b = s.toList → lastF s 0 (0, false) nm = ofF s := by
    intro b hb
    unfold ofF
    simp only [nm, lastF, firstI, ← hb]
    by_cases e0 : b = (⟨#[]⟩ : ByteArray).toList
    · subst e0; decide +kernel
    by_cases e1 : b = (⟨#[99, 117, 114, 114, 101, 110, 116]⟩ : ByteArray).toList
    · subst e1; decide +kernel
    by_cases e2 : b = (⟨#[112, 97, 121, 97, 98, 108, 101]⟩ : ByteArray).toList
    · subst e2; decide +kernel
    by_cases e3 : b = (⟨#[100, 101, 102, 101, 114, 114, 101, 100]⟩ : ByteArray).toList
    · subst e3; decide +kernel
    by_cases e4 : b = (⟨#[116, 101, 109, 112]⟩ : ByteArray).toList
    · subst e4; decide +kernel
    by_cases e5 : b = (⟨#[108, 111, 115, 115, 101, 115]⟩ : ByteArray).toList
    · subst e5; decide +kernel
    by_cases e6 : b = (⟨#[97, 108, 108, 111, 119, 97, 110, 99, 101]⟩ : ByteArray).toList
    · subst e6; decide +kernel
    by_cases e7 : b = (⟨#[116, 114, 117, 101, 117, 112]⟩ : ByteArray).toList
    · subst e7; decide +kernel
    · have f0 : (b == (⟨#[]⟩ : ByteArray).toList) = false := by simpa using e0
      have f1 : (b == (⟨#[99, 117, 114, 114, 101, 110, 116]⟩ : ByteArray).toList) = false := by simpa using e1
      have f2 : (b == (⟨#[112, 97, 121, 97, 98, 108, 101]⟩ : ByteArray).toList) = false := by simpa using e2
      have f3 : (b == (⟨#[100, 101, 102, 101, 114, 114, 101, 100]⟩ : ByteArray).toList) = false := by simpa using e3
      have f4 : (b == (⟨#[116, 101, 109, 112]⟩ : ByteArray).toList) = false := by simpa using e4
      have f5 : (b == (⟨#[108, 111, 115, 115, 101, 115]⟩ : ByteArray).toList) = false := by simpa using e5
      have f6 : (b == (⟨#[97, 108, 108, 111, 119, 97, 110, 99, 101]⟩ : ByteArray).toList) = false := by simpa using e6
      have f7 : (b == (⟨#[116, 114, 117, 101, 117, 112]⟩ : ByteArray).toList) = false := by simpa using e7
      have g1 : ((⟨#[99, 117, 114, 114, 101, 110, 116]⟩ : ByteArray).toList == b) = false := by rw [beq_eq_false_iff_ne]; exact fun e => e1 e.symm
      have g2 : ((⟨#[112, 97, 121, 97, 98, 108, 101]⟩ : ByteArray).toList == b) = false := by rw [beq_eq_false_iff_ne]; exact fun e => e2 e.symm
      have g3 : ((⟨#[100, 101, 102, 101, 114, 114, 101, 100]⟩ : ByteArray).toList == b) = false := by rw [beq_eq_false_iff_ne]; exact fun e => e3 e.symm
      have g4 : ((⟨#[116, 101, 109, 112]⟩ : ByteArray).toList == b) = false := by rw [beq_eq_false_iff_ne]; exact fun e => e4 e.symm
      have g5 : ((⟨#[108, 111, 115, 115, 101, 115]⟩ : ByteArray).toList == b) = false := by rw [beq_eq_false_iff_ne]; exact fun e => e5 e.symm
      have g6 : ((⟨#[97, 108, 108, 111, 119, 97, 110, 99, 101]⟩ : ByteArray).toList == b) = false := by rw [beq_eq_false_iff_ne]; exact fun e => e6 e.symm
      have g7 : ((⟨#[116, 114, 117, 101, 117, 112]⟩ : ByteArray).toList == b) = false := by rw [beq_eq_false_iff_ne]; exact fun e => e7 e.symm
      simp only [f0, f1, f2, f3, f4, f5, f6, f7, g1, g2, g3, g4, g5, g6, g7, Bool.false_eq_true, and_false, if_false]
      simp
  exact key _ rfl

set_option maxRecDepth 20000 in
set_option maxHeartbeats 4000000 in
theorem chartTells_ok {h0 : LH} (a : Int) (s : ByteArray) (pick : Int) (raw : Bool) : ∃ h', callX C 14 [.s (.int .i64 a), .s (.str s), .s (.int .i64 pick), .s (.bool raw)] h0 = some (.s (.bool true), h') ∧ True := by
  suffices w : WPc C 14 [.s (.int .i64 a), .s (.str s), .s (.int .i64 pick), .s (.bool raw)] h0 fun u _ => u = .s (.bool true) by
    obtain ⟨v, h', e, rfl⟩ := w
    exact ⟨h', e, trivial⟩
  refine WPc.post fun Ψ hΨ => ?_
  refine WPc.intro (e := e14) rfl (by simp [e14]) ?_
  show WPk C b14 _ _ (KR [.tmp 8] _)
  have main : ∀ (a : Int) (s : ByteArray) (h2 : LH) (x : Fr), WPk C s14_2 ((0, some (.s (.int .i64 a))) :: (1, some (.s (.str s))) :: x) h2 (KR [.tmp 8] Ψ) := by
    intro a s h2 x
    have tail : ∀ (h3 : LH) (y : Fr), WPk C s14_4 ((0, some (.s (.int .i64 a))) :: (1, some (.s (.str s))) :: (9, some (.s (.str (nameF a)))) :: y) h3 (KR [.tmp 8] Ψ) := by
      intro h3 y
      simp [wpk_skip, wpk_seq, k_cond, wpk_block, wpk_exit, wpk_ret, wpk_loop, k_ops, k_draw0, t_nil, t_cons, KT_eq, KD_eq, wpo_nil, k_cons, k_step, mt_some, mtk_some, KO_eq, KP_eq, K_normal, K_ret, K_exit, KB_normal, KB_ret, KB_exit, KL_normal, KL_ret, KL_exit, k_ret, k_normal, stepE, isCall, calleeE, opE, wantE, odE, odS, odL, odSL, fget, fput, initE, keepF, List.map_cons, List.map_nil, binE, intOp, strOp, shOp, unE, eqpE, eqnE, neqB, ressE, resE, packL, packE, flat1, fcells, fillE, setL, cellsOf_bind, cellsO_own, cellsO_ro, lenE_sl, lenE_nils, lenE_sl0, bound, rep, minE, maxE, List.getElem?_cons_zero, List.getElem?_cons_succ, get_lt, set_lt, get_len, get_len_add, set_len, set_len_add, List.append_assoc, List.cons_append, List.nil_append, -getElem?_pos, s14_4, s14_5, rnames_ok]
      have r := nm_rd h3
      refine WPl.inv2 (fun n fr h' => h' = h3 ++ [.own 9 (nm.flatMap encS)] ∧ ∃ (k : Nat) (st : Int × Bool), k ≤ 8 ∧ n = 8 - k ∧ lastF s k st (nm.drop k) = ofF s ∧ fr = [(0, some (.s (.int .i64 a))), (1, some (.s (.str s))), (9, some (.s (.str (nameF a)))), (10, some (.s (.int .i64 st.1))), (11, some (.s (.bool st.2))), (32, some (.s (.sl h3.length 0 0 8))), (33, some (.s (.int .i64 8))), (34, some (.s (.int .i64 k)))]) ?_ _ _ _ ⟨rfl, 0, (0, false), by omega, rfl, last_first s, rfl⟩
      rintro I hI n fr h' ⟨rfl, k, st, hk, rfl, he, rfl⟩
      refine ⟨by simp [keepF, fget], ?_⟩
      by_cases hlt : k < 8
      · have hlt' : (k : Int) < 8 := by omega
        have hkn : k < nm.length := hlt
        obtain ⟨i, p, o, ob, vs, e, q2, q3, q4⟩ := r.at1 (f := .str) (fun _ => rfl) hkn
        have w3 : IntKind.i64.wrap ((k : Int) + 1) = ((k + 1 : Nat) : Int) := wrap_small (by omega) (by omega)
        rw [List.drop_eq_getElem_cons hkn] at he
        simp only [lastF] at he
        generalize hx : nm[k] = x at he q4
        cases e
        simp only [Nat.zero_add] at q4
        have fin : ∀ (st' : Int × Bool), lastF s (k + 1) st' (nm.drop (k + 1)) = ofF s → ∃ m, m < 8 - k ∧ I m [(0, some (.s (.int .i64 a))), (1, some (.s (.str s))), (9, some (.s (.str (nameF a)))), (10, some (.s (.int .i64 st'.1))), (11, some (.s (.bool st'.2))), (32, some (.s (.sl h3.length 0 0 8))), (33, some (.s (.int .i64 8))), (34, some (.s (.int .i64 ((k : Int) + 1))))] (h3 ++ [.own 9 (nm.flatMap encS)]) := fun st' h => ⟨_, by omega, hI _ _ _ ⟨rfl, k + 1, st', by omega, rfl, h, rfl⟩⟩
        by_cases hk1 : 0 < k
        · have hk0 : 0 < (k : Int) := by omega
          cases hb : x.toList == s.toList with
          | true =>
            rw [if_pos ⟨hk0, hb⟩] at he
            have := fin _ he
            rw [List.getElem?_append_right (Nat.le_refl _), Nat.sub_self] at q2
            cases q2; cases q3
            simp [wpk_skip, wpk_seq, k_cond, wpk_block, wpk_exit, wpk_ret, wpk_loop, k_ops, k_draw0, t_nil, t_cons, KT_eq, KD_eq, wpo_nil, k_cons, k_step, mt_some, mtk_some, KO_eq, KP_eq, K_normal, K_ret, K_exit, KB_normal, KB_ret, KB_exit, KL_normal, KL_ret, KL_exit, k_ret, k_normal, stepE, isCall, calleeE, opE, wantE, odE, odS, odL, odSL, fget, fput, initE, keepF, List.map_cons, List.map_nil, binE, intOp, strOp, shOp, unE, eqpE, eqnE, neqB, ressE, resE, packL, packE, flat1, fcells, fillE, setL, cellsOf_bind, cellsO_own, cellsO_ro, lenE_sl, lenE_nils, lenE_sl0, bound, rep, minE, maxE, List.getElem?_cons_zero, List.getElem?_cons_succ, get_lt, set_lt, get_len, get_len_add, set_len, set_len_add, List.append_assoc, List.cons_append, List.nil_append, -getElem?_pos, l14_0_2, l14_0_1, l14_0, hlt', q4, w3, hk1, hb]
            simpa using this
          | false =>
            rw [if_neg (by rw [hb]; simp)] at he
            have := fin _ he
            rw [List.getElem?_append_right (Nat.le_refl _), Nat.sub_self] at q2
            cases q2; cases q3
            simp [wpk_skip, wpk_seq, k_cond, wpk_block, wpk_exit, wpk_ret, wpk_loop, k_ops, k_draw0, t_nil, t_cons, KT_eq, KD_eq, wpo_nil, k_cons, k_step, mt_some, mtk_some, KO_eq, KP_eq, K_normal, K_ret, K_exit, KB_normal, KB_ret, KB_exit, KL_normal, KL_ret, KL_exit, k_ret, k_normal, stepE, isCall, calleeE, opE, wantE, odE, odS, odL, odSL, fget, fput, initE, keepF, List.map_cons, List.map_nil, binE, intOp, strOp, shOp, unE, eqpE, eqnE, neqB, ressE, resE, packL, packE, flat1, fcells, fillE, setL, cellsOf_bind, cellsO_own, cellsO_ro, lenE_sl, lenE_nils, lenE_sl0, bound, rep, minE, maxE, List.getElem?_cons_zero, List.getElem?_cons_succ, get_lt, set_lt, get_len, get_len_add, set_len, set_len_add, List.append_assoc, List.cons_append, List.nil_append, -getElem?_pos, l14_0_2, l14_0_1, l14_0, hlt', q4, w3, hk1, hb]
            simpa using this
        · have hk0 : ¬ 0 < (k : Int) := by omega
          rw [if_neg (fun h => hk0 h.1)] at he
          have := fin _ he
          rw [List.getElem?_append_right (Nat.le_refl _), Nat.sub_self] at q2
          cases q2; cases q3
          simp [wpk_skip, wpk_seq, k_cond, wpk_block, wpk_exit, wpk_ret, wpk_loop, k_ops, k_draw0, t_nil, t_cons, KT_eq, KD_eq, wpo_nil, k_cons, k_step, mt_some, mtk_some, KO_eq, KP_eq, K_normal, K_ret, K_exit, KB_normal, KB_ret, KB_exit, KL_normal, KL_ret, KL_exit, k_ret, k_normal, stepE, isCall, calleeE, opE, wantE, odE, odS, odL, odSL, fget, fput, initE, keepF, List.map_cons, List.map_nil, binE, intOp, strOp, shOp, unE, eqpE, eqnE, neqB, ressE, resE, packL, packE, flat1, fcells, fillE, setL, cellsOf_bind, cellsO_own, cellsO_ro, lenE_sl, lenE_nils, lenE_sl0, bound, rep, minE, maxE, List.getElem?_cons_zero, List.getElem?_cons_succ, get_lt, set_lt, get_len, get_len_add, set_len, set_len_add, List.append_assoc, List.cons_append, List.nil_append, -getElem?_pos, l14_0_2, l14_0_1, l14_0, hlt', q4, w3, hk1]
          simpa using this
      · obtain rfl : k = 8 := by omega
        have he' : st = ofF s := he
        subst he'
        simp [wpk_skip, wpk_seq, k_cond, wpk_block, wpk_exit, wpk_ret, wpk_loop, k_ops, k_draw0, t_nil, t_cons, KT_eq, KD_eq, wpo_nil, k_cons, k_step, mt_some, mtk_some, KO_eq, KP_eq, K_normal, K_ret, K_exit, KB_normal, KB_ret, KB_exit, KL_normal, KL_ret, KL_exit, k_ret, k_normal, stepE, isCall, calleeE, opE, wantE, odE, odS, odL, odSL, fget, fput, initE, keepF, List.map_cons, List.map_nil, binE, intOp, strOp, shOp, unE, eqpE, eqnE, neqB, ressE, resE, packL, packE, flat1, fcells, fillE, setL, cellsOf_bind, cellsO_own, cellsO_ro, lenE_sl, lenE_nils, lenE_sl0, bound, rep, minE, maxE, List.getElem?_cons_zero, List.getElem?_cons_succ, get_lt, set_lt, get_len, get_len_add, set_len, set_len_add, List.append_assoc, List.cons_append, List.nil_append, -getElem?_pos, l14_0_2, l14_0_1, l14_0, s14_6]
        refine WPc.go (of_ok s _) ?_
        rintro _ h4 ⟨g4, rfl⟩
        simp [wpk_skip, wpk_seq, k_cond, wpk_block, wpk_exit, wpk_ret, wpk_loop, k_ops, k_draw0, t_nil, t_cons, KT_eq, KD_eq, wpo_nil, k_cons, k_step, mt_some, mtk_some, KO_eq, KP_eq, K_normal, K_ret, K_exit, KB_normal, KB_ret, KB_exit, KL_normal, KL_ret, KL_exit, k_ret, k_normal, stepE, isCall, calleeE, opE, wantE, odE, odS, odL, odSL, fget, fput, initE, keepF, List.map_cons, List.map_nil, binE, intOp, strOp, shOp, unE, eqpE, eqnE, neqB, ressE, resE, packL, packE, flat1, fcells, fillE, setL, cellsOf_bind, cellsO_own, cellsO_ro, lenE_sl, lenE_nils, lenE_sl0, bound, rep, minE, maxE, List.getElem?_cons_zero, List.getElem?_cons_succ, get_lt, set_lt, get_len, get_len_add, set_len, set_len_add, List.append_assoc, List.cons_append, List.nil_append, -getElem?_pos, s14_7]
        refine WPc.go (name_ok a _) ?_
        rintro _ h5 ⟨g5, rfl⟩
        have e1 : ((nameF a).toList == (nameF a).toList) = true := by simp
        simp [wpk_skip, wpk_seq, k_cond, wpk_block, wpk_exit, wpk_ret, wpk_loop, k_ops, k_draw0, t_nil, t_cons, KT_eq, KD_eq, wpo_nil, k_cons, k_step, mt_some, mtk_some, KO_eq, KP_eq, K_normal, K_ret, K_exit, KB_normal, KB_ret, KB_exit, KL_normal, KL_ret, KL_exit, k_ret, k_normal, stepE, isCall, calleeE, opE, wantE, odE, odS, odL, odSL, fget, fput, initE, keepF, List.map_cons, List.map_nil, binE, intOp, strOp, shOp, unE, eqpE, eqnE, neqB, ressE, resE, packL, packE, flat1, fcells, fillE, setL, cellsOf_bind, cellsO_own, cellsO_ro, lenE_sl, lenE_nils, lenE_sl0, bound, rep, minE, maxE, List.getElem?_cons_zero, List.getElem?_cons_succ, get_lt, set_lt, get_len, get_len_add, set_len, set_len_add, List.append_assoc, List.cons_append, List.nil_append, -getElem?_pos, e1, cost_ok, rcost_ok]
        refine WPc.go (accounts_ok _) ?_
        rintro _ h6 ⟨g6, w, rfl, ow⟩
        have e2 : (h6 ++ [LO.own 3 [.int .i64 1, .int .i64 2, .int .i64 3, .int .i64 4, .int .i64 5, .int .i64 6, .int .i64 7]])[h6.length]? = some (.own 3 ([(1 : Int), 2, 3, 4, 5, 6, 7].flatMap encI)) := get_len
        have hs := same_ok ((ow.rd encI_len (z := 1)).gr (Gr.self h6 [LO.own 3 [.int .i64 1, .int .i64 2, .int .i64 3, .int .i64 4, .int .i64 5, .int .i64 6, .int .i64 7]])) (Rd.lit encI_len e2 (p := 0)) (by decide)
        simp at hs
        simp [wpk_skip, wpk_seq, k_cond, wpk_block, wpk_exit, wpk_ret, wpk_loop, k_ops, k_draw0, t_nil, t_cons, KT_eq, KD_eq, wpo_nil, k_cons, k_step, mt_some, mtk_some, KO_eq, KP_eq, K_normal, K_ret, K_exit, KB_normal, KB_ret, KB_exit, KL_normal, KL_ret, KL_exit, k_ret, k_normal, stepE, isCall, calleeE, opE, wantE, odE, odS, odL, odSL, fget, fput, initE, keepF, List.map_cons, List.map_nil, binE, intOp, strOp, shOp, unE, eqpE, eqnE, neqB, ressE, resE, packL, packE, flat1, fcells, fillE, setL, cellsOf_bind, cellsO_own, cellsO_ro, lenE_sl, lenE_nils, lenE_sl0, bound, rep, minE, maxE, List.getElem?_cons_zero, List.getElem?_cons_succ, get_lt, set_lt, get_len, get_len_add, set_len, set_len_add, List.append_assoc, List.cons_append, List.nil_append, -getElem?_pos, hs]
        refine WPc.go (wakes_ok _) ?_
        rintro _ h7 ⟨_, rfl⟩
        simp [wpk_skip, wpk_seq, k_cond, wpk_block, wpk_exit, wpk_ret, wpk_loop, k_ops, k_draw0, t_nil, t_cons, KT_eq, KD_eq, wpo_nil, k_cons, k_step, mt_some, mtk_some, KO_eq, KP_eq, K_normal, K_ret, K_exit, KB_normal, KB_ret, KB_exit, KL_normal, KL_ret, KL_exit, k_ret, k_normal, stepE, isCall, calleeE, opE, wantE, odE, odS, odL, odSL, fget, fput, initE, keepF, List.map_cons, List.map_nil, binE, intOp, strOp, shOp, unE, eqpE, eqnE, neqB, ressE, resE, packL, packE, flat1, fcells, fillE, setL, cellsOf_bind, cellsO_own, cellsO_ro, lenE_sl, lenE_nils, lenE_sl0, bound, rep, minE, maxE, List.getElem?_cons_zero, List.getElem?_cons_succ, get_lt, set_lt, get_len, get_len_add, set_len, set_len_add, List.append_assoc, List.cons_append, List.nil_append, -getElem?_pos, ]
        exact hΨ _ _ rfl
    by_cases ha : 1 ≤ a ∧ a ≤ 7
    · have hk : a.toNat < nm.length := by simp [nm]; omega
      obtain ⟨i, p, o, ob, vs, e, q2, q3, q4⟩ := (nm_rd h2).at1 (f := .str) (fun _ => rfl) hk
      cases e
      have a0 : 0 ≤ a := by omega
      have a1 : a < 8 := by omega
      rw [List.getElem?_append_right (Nat.le_refl _), Nat.sub_self] at q2
      cases q2
      cases q3
      simp only [Nat.zero_add] at q4
      have hn : nm[a.toNat] = nameF a := by
        unfold nameF
        rw [if_pos ha, List.getD_eq_getElem?_getD, List.getElem?_eq_getElem hk]; rfl
      rw [hn] at q4
      simp [wpk_skip, wpk_seq, k_cond, wpk_block, wpk_exit, wpk_ret, wpk_loop, k_ops, k_draw0, t_nil, t_cons, KT_eq, KD_eq, wpo_nil, k_cons, k_step, mt_some, mtk_some, KO_eq, KP_eq, K_normal, K_ret, K_exit, KB_normal, KB_ret, KB_exit, KL_normal, KL_ret, KL_exit, k_ret, k_normal, stepE, isCall, calleeE, opE, wantE, odE, odS, odL, odSL, fget, fput, initE, keepF, List.map_cons, List.map_nil, binE, intOp, strOp, shOp, unE, eqpE, eqnE, neqB, ressE, resE, packL, packE, flat1, fcells, fillE, setL, cellsOf_bind, cellsO_own, cellsO_ro, lenE_sl, lenE_nils, lenE_sl0, bound, rep, minE, maxE, List.getElem?_cons_zero, List.getElem?_cons_succ, get_lt, set_lt, get_len, get_len_add, set_len, set_len_add, List.append_assoc, List.cons_append, List.nil_append, -getElem?_pos, s14_2, s14_3, ris_ok, ha, rnames_ok, a0, a1, q4]
      exact tail _ _
    · have hn : nameF a = ⟨#[]⟩ := by unfold nameF; rw [if_neg ha]
      rw [hn] at tail
      simp [wpk_skip, wpk_seq, k_cond, wpk_block, wpk_exit, wpk_ret, wpk_loop, k_ops, k_draw0, t_nil, t_cons, KT_eq, KD_eq, wpo_nil, k_cons, k_step, mt_some, mtk_some, KO_eq, KP_eq, K_normal, K_ret, K_exit, KB_normal, KB_ret, KB_exit, KL_normal, KL_ret, KL_exit, k_ret, k_normal, stepE, isCall, calleeE, opE, wantE, odE, odS, odL, odSL, fget, fput, initE, keepF, List.map_cons, List.map_nil, binE, intOp, strOp, shOp, unE, eqpE, eqnE, neqB, ressE, resE, packL, packE, flat1, fcells, fillE, setL, cellsOf_bind, cellsO_own, cellsO_ro, lenE_sl, lenE_nils, lenE_sl0, bound, rep, minE, maxE, List.getElem?_cons_zero, List.getElem?_cons_succ, get_lt, set_lt, get_len, get_len_add, set_len, set_len_add, List.append_assoc, List.cons_append, List.nil_append, -getElem?_pos, s14_2, s14_3, ris_ok, ha]
      exact tail _ _
  cases raw with
  | true =>
    simp [wpk_skip, wpk_seq, k_cond, wpk_block, wpk_exit, wpk_ret, wpk_loop, k_ops, k_draw0, t_nil, t_cons, KT_eq, KD_eq, wpo_nil, k_cons, k_step, mt_some, mtk_some, KO_eq, KP_eq, K_normal, K_ret, K_exit, KB_normal, KB_ret, KB_exit, KL_normal, KL_ret, KL_exit, k_ret, k_normal, stepE, isCall, calleeE, opE, wantE, odE, odS, odL, odSL, fget, fput, initE, keepF, List.map_cons, List.map_nil, binE, intOp, strOp, shOp, unE, eqpE, eqnE, neqB, ressE, resE, packL, packE, flat1, fcells, fillE, setL, cellsOf_bind, cellsO_own, cellsO_ro, lenE_sl, lenE_nils, lenE_sl0, bound, rep, minE, maxE, List.getElem?_cons_zero, List.getElem?_cons_succ, get_lt, set_lt, get_len, get_len_add, set_len, set_len_add, List.append_assoc, List.cons_append, List.nil_append, -getElem?_pos, b14, s14_1]
    exact main _ _ _ _
  | false =>
    have y1 := fun h => within_ok a 10 (by omega) h
    have y2 := fun h => within_ok pick 8 (by omega) h
    have a0 : 0 ≤ a % 10 ∧ a % 10 < 10 := by omega
    have p0 : 0 ≤ pick % 8 ∧ pick % 8 < 8 := by omega
    generalize a % 10 = b at y1 a0
    generalize pick % 8 = p at y2 p0
    have w1 : IntKind.i64.wrap (b - 1) = b - 1 := wrap_small (by omega) (by omega)
    have hk : p.toNat < nm.length := by simp [nm]; omega
    obtain ⟨i, p', o, ob, vs, e, q2, q3, q4⟩ := (nm_rd h0).at1 (f := .str) (fun _ => rfl) hk
    cases e
    rw [List.getElem?_append_right (Nat.le_refl _), Nat.sub_self] at q2
    cases q2
    cases q3
    simp only [Nat.zero_add] at q4
    have p1 := p0.1
    have p2 := p0.2
    simp [wpk_skip, wpk_seq, k_cond, wpk_block, wpk_exit, wpk_ret, wpk_loop, k_ops, k_draw0, t_nil, t_cons, KT_eq, KD_eq, wpo_nil, k_cons, k_step, mt_some, mtk_some, KO_eq, KP_eq, K_normal, K_ret, K_exit, KB_normal, KB_ret, KB_exit, KL_normal, KL_ret, KL_exit, k_ret, k_normal, stepE, isCall, calleeE, opE, wantE, odE, odS, odL, odSL, fget, fput, initE, keepF, List.map_cons, List.map_nil, binE, intOp, strOp, shOp, unE, eqpE, eqnE, neqB, ressE, resE, packL, packE, flat1, fcells, fillE, setL, cellsOf_bind, cellsO_own, cellsO_ro, lenE_sl, lenE_nils, lenE_sl0, bound, rep, minE, maxE, List.getElem?_cons_zero, List.getElem?_cons_succ, get_lt, set_lt, get_len, get_len_add, set_len, set_len_add, List.append_assoc, List.cons_append, List.nil_append, -getElem?_pos, b14, s14_1, y1, y2, w1, rnames_ok, p1, p2, q4]
    exact main _ _ _ _
end Go.Proofs.Ytfnihfcdoibleaa.Ev.CH
