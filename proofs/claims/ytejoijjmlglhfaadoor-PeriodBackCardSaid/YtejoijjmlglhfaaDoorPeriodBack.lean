/- PeriodBack on the small machine. -/
import Derived.Test.YtejoijjmlglhfaaDoorPeB
set_option linter.unusedSimpArgs false
set_option linter.unusedVariables false
namespace Go.Proofs.YtejoijjmlglhfaaDoor.Ev.CP
open Go

theorem parse_txt {p : Nat} (h : p < 400) : parseF (txt p) = ((p : Int), true) := parse_some ⟨h, rfl⟩
theorem parse_size {s : ByteArray} (h : s.size ≠ 6) : parseF s = (0, false) := parse_none fun p hp => h (by rw [← hp.2]; exact txt_size p)

set_option maxRecDepth 20000 in
set_option maxHeartbeats 8000000 in
theorem periodBack_ok {h0 : LH} (p0 at0 c0 : Int) (hc : 0 ≤ c0 ∧ c0 < 256) : ∃ h', callX C 5 [.s (.int .i64 p0), .s (.int .i64 at0), .s (.int .u8 c0)] h0 = some (.s (.bool true), h') ∧ True := by
  suffices w : WPc C 5 [.s (.int .i64 p0), .s (.int .i64 at0), .s (.int .u8 c0)] h0 fun u _ => u = .s (.bool true) by
    obtain ⟨v, h', e, rfl⟩ := w
    exact ⟨h', e, trivial⟩
  refine WPc.post fun Ψ hΨ => ?_
  refine WPc.intro (e := e5) rfl (by simp [e5]) ?_
  show WPk C b5 _ _ (KR [.tmp 6] _)
  have y1 := fun h => within_ok p0 400 (by omega) h
  have y2 := fun h => within_ok at0 6 (by omega) h
  obtain ⟨p, hp⟩ : ∃ p : Nat, p0 % 400 = p := ⟨(p0 % 400).toNat, by omega⟩
  obtain ⟨a, ha⟩ : ∃ p : Nat, at0 % 6 = p := ⟨(at0 % 6).toNat, by omega⟩
  have bp : p < 400 := by omega
  have ba : a < 6 := by omega
  rw [hp] at y1
  rw [ha] at y2
  have t1 := fun h => text_ok (p : Int) h
  rw [txtF_nat bp] at t1
  have p1 := fun h => parse_ok (txt p) h
  rw [parse_txt bp] at p1
  have sz := txt_size p
  have w1 : IntKind.i64.wrap ((a : Int) + 1) = ((a + 1 : Nat) : Int) := wrap_small (by omega) (by omega)
  have l1 : a ≤ 6 := by omega
  have l2 : a + 1 ≤ 6 := ba
  have l3 : (0 : Int) ≤ (a : Int) := by omega
  have l4 : (0 : Int) ≤ ((a + 1 : Nat) : Int) := by omega
  have l5 : (0 : Int) ≤ (a : Int) + 1 := by omega
  obtain ⟨B, hB⟩ : ∃ B : ByteArray, B = ⟨#[UInt8.ofNat c0.toNat]⟩ := ⟨_, rfl⟩
  have sB : B.size = 1 := by rw [hB]; rfl
  obtain ⟨X, hX⟩ : ∃ X, X = (txt p).extract 0 a := ⟨_, rfl⟩
  obtain ⟨Y, hY⟩ : ∃ X, X = (txt p).extract (a + 1) 6 := ⟨_, rfl⟩
  have sX : X.size = a := by rw [hX, ByteArray.size_extract, sz]; omega
  have sY : Y.size = 5 - a := by rw [hY, ByteArray.size_extract, sz]; omega
  obtain ⟨T, hT⟩ : ∃ T, T = X ++ B ++ Y := ⟨_, rfl⟩
  have sXB : (X ++ B).size = a + 1 := by rw [ByteArray.size_append, sX, sB]
  have p2 := fun h => parse_ok T h
  have p3 := fun h => parse_ok ((txt p).extract 0 5) h
  rw [parse_size (by rw [ByteArray.size_extract, sz]; decide)] at p3
  have p4 := fun h => parse_ok (txt p ++ ⟨#[48]⟩) h
  have s48 : (⟨#[48]⟩ : ByteArray).size = 1 := rfl
  rw [parse_size (by rw [ByteArray.size_append, sz]; decide)] at p4
  have wk := fun h => wakes_ok h
  have bq := beq_str T (txt p)
  have szi : ((6 : Int) != 6) = false := rfl
  have o1 : (a : Int) + 1 ≤ 9223372036854775807 := by omega
  have o2 : (a : Int) + 1 + ((5 - a : Nat) : Int) ≤ 9223372036854775807 := by omega
  have bnd : ∀ x : Nat, x ≤ 20 → (x : Int) ≤ 9223372036854775807 := fun x hx => by omega
  by_cases hex : ∃ m, IsPer T m
  · obtain ⟨m, hm⟩ := hex
    have e2 := parse_some hm
    rw [e2] at p2
    have t2 := fun h => text_ok (m : Int) h
    rw [txtF_nat hm.1, hm.2] at t2
    have bs : (T.toList == T.toList) = true := by simp
    have key : (T.toList == (txt p).toList) = ((m : Int) == (p : Int)) := by
      rw [bq]
      by_cases e : m = p
      · subst e
        rw [decide_eq_true hm.2.symm]; simp
      · rw [decide_eq_false fun h => e (txt_inj hm.1 bp (hm.2.trans h))]
        have : ¬ (m : Int) = p := by omega
        simpa using this
    cases hk : ((m : Int) == (p : Int)) with
    | true =>
      rw [hk] at key
      simp [wpk_skip, wpk_seq, k_cond, wpk_block, wpk_exit, wpk_ret, wpk_loop, k_ops, k_draw0, t_nil, t_cons, KT_eq, KD_eq, wpo_nil, k_cons, k_step, mt_some, mtk_some, KO_eq, KP_eq, K_normal, K_ret, K_exit, KB_normal, KB_ret, KB_exit, KL_normal, KL_ret, KL_exit, k_ret, k_normal, stepE, isCall, calleeE, opE, wantE, odE, odS, odL, odSL, fget, fput, initE, keepF, List.map_cons, List.map_nil, binE, intOp, strOp, shOp, unE, eqpE, eqnE, neqB, ressE, resE, packL, packE, flat1, fcells, fillE, setL, cellsOf_bind, cellsO_own, cellsO_ro, lenE_sl, lenE_nils, lenE_sl0, bound, rep, minE, maxE, List.getElem?_cons_zero, List.getElem?_cons_succ, get_lt, set_lt, get_len, get_len_add, set_len, set_len_add, List.append_assoc, List.cons_append, List.nil_append, -getElem?_pos, b5, s5_10, s5_9, s5_8, s5_7, s5_6, s5_5, s5_4, s5_3, s5_2, s5_1, y1, y2, t1, p1, sz, w1, l1, l2, l3, l4, l5, ← hX, ← hY, ← hB, sX, sB, sY, sXB, ← hT, o1, o2, elems, bytesOf, p2, p3, p4, s48, t2, bs, key, hk, wk]
      exact hΨ _ _ rfl
    | false =>
      rw [hk] at key
      simp [wpk_skip, wpk_seq, k_cond, wpk_block, wpk_exit, wpk_ret, wpk_loop, k_ops, k_draw0, t_nil, t_cons, KT_eq, KD_eq, wpo_nil, k_cons, k_step, mt_some, mtk_some, KO_eq, KP_eq, K_normal, K_ret, K_exit, KB_normal, KB_ret, KB_exit, KL_normal, KL_ret, KL_exit, k_ret, k_normal, stepE, isCall, calleeE, opE, wantE, odE, odS, odL, odSL, fget, fput, initE, keepF, List.map_cons, List.map_nil, binE, intOp, strOp, shOp, unE, eqpE, eqnE, neqB, ressE, resE, packL, packE, flat1, fcells, fillE, setL, cellsOf_bind, cellsO_own, cellsO_ro, lenE_sl, lenE_nils, lenE_sl0, bound, rep, minE, maxE, List.getElem?_cons_zero, List.getElem?_cons_succ, get_lt, set_lt, get_len, get_len_add, set_len, set_len_add, List.append_assoc, List.cons_append, List.nil_append, -getElem?_pos, b5, s5_10, s5_9, s5_8, s5_7, s5_6, s5_5, s5_4, s5_3, s5_2, s5_1, y1, y2, t1, p1, sz, w1, l1, l2, l3, l4, l5, ← hX, ← hY, ← hB, sX, sB, sY, sXB, ← hT, o1, o2, elems, bytesOf, p2, p3, p4, s48, t2, bs, key, hk, wk]
      exact hΨ _ _ rfl
  · have e2 := parse_none fun m hm => hex ⟨m, hm⟩
    rw [e2] at p2
    have key : (T.toList == (txt p).toList) = false := by
      rw [bq, decide_eq_false]
      intro e
      exact hex ⟨p, bp, e.symm⟩
    simp [wpk_skip, wpk_seq, k_cond, wpk_block, wpk_exit, wpk_ret, wpk_loop, k_ops, k_draw0, t_nil, t_cons, KT_eq, KD_eq, wpo_nil, k_cons, k_step, mt_some, mtk_some, KO_eq, KP_eq, K_normal, K_ret, K_exit, KB_normal, KB_ret, KB_exit, KL_normal, KL_ret, KL_exit, k_ret, k_normal, stepE, isCall, calleeE, opE, wantE, odE, odS, odL, odSL, fget, fput, initE, keepF, List.map_cons, List.map_nil, binE, intOp, strOp, shOp, unE, eqpE, eqnE, neqB, ressE, resE, packL, packE, flat1, fcells, fillE, setL, cellsOf_bind, cellsO_own, cellsO_ro, lenE_sl, lenE_nils, lenE_sl0, bound, rep, minE, maxE, List.getElem?_cons_zero, List.getElem?_cons_succ, get_lt, set_lt, get_len, get_len_add, set_len, set_len_add, List.append_assoc, List.cons_append, List.nil_append, -getElem?_pos, b5, s5_10, s5_9, s5_8, s5_7, s5_6, s5_5, s5_4, s5_3, s5_2, s5_1, y1, y2, t1, p1, sz, w1, l1, l2, l3, l4, l5, ← hX, ← hY, ← hB, sX, sB, sY, sXB, ← hT, o1, o2, elems, bytesOf, p2, p3, p4, s48, key, wk]
    exact hΨ _ _ rfl
end Go.Proofs.YtejoijjmlglhfaaDoor.Ev.CP
