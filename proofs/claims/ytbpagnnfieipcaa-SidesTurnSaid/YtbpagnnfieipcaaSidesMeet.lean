/- SidesMeet on the small machine. -/
import Derived.Test.YtbpagnnfieipcaaSiA
set_option linter.unusedSimpArgs false
set_option linter.unusedVariables false
namespace Go.Proofs.Ytbpagnnfieipcaa.Ev.CT
open Go

theorem sum_lit {h : LH} {i p : Nat} {l : List (Nat × Nat)} {n : Nat} (hn : n = l.length) (hi : h[i]? = some (.own 36 (l.flatMap encC))) (hl : l.length < 1000000) (h1 : s1 l ≤ 4000000000000000) (h2 : s2 l ≤ 4000000000000000) :
    callX C 26 [.s (.sl i p 0 n)] h = some (.s (cx (s1 l) (s2 l)), h) := by
  subst hn
  exact sum_ok (Rd.lit encC_len hi) hl h1 h2

set_option maxRecDepth 20000 in
set_option maxHeartbeats 8000000 in
theorem sidesMeet_ok {h0 : LH} (n0 : Int) : ∃ h', callX C 12 [.s (.int .i64 n0)] h0 = some (.s (.bool true), h') ∧ True := by
  suffices w : WPc C 12 [.s (.int .i64 n0)] h0 fun u _ => u = .s (.bool true) by
    obtain ⟨v, h', e, rfl⟩ := w
    exact ⟨h', e, trivial⟩
  refine WPc.post fun Ψ hΨ => ?_
  refine WPc.intro (e := e12) rfl (by simp [e12]) ?_
  show WPk C b12 _ _ (KR [.tmp 2] _)
  have y1 := fun h => within_ok n0 99999999999 (by omega) h
  have b1 : 0 ≤ n0 % 99999999999 ∧ n0 % 99999999999 < 99999999999 := by omega
  obtain ⟨n, hn⟩ : ∃ n : Nat, n0 % 99999999999 = n := ⟨(n0 % 99999999999).toNat, by omega⟩
  rw [hn] at y1 b1
  obtain ⟨N, hN⟩ : ∃ N, N = n + 1 := ⟨_, rfl⟩
  have w1 : IntKind.i64.wrap (1 + (n : Int)) = (N : Int) := by rw [wrap_small (by omega) (by omega)]; omega
  have w2 : IntKind.i64.wrap (-(N : Int)) = -(N : Int) := wrap_small (by omega) (by omega)
  have N0 : 0 < N ∧ N ≤ 99999999999 := by omega
  have q1 := fun h => of_ok (N : Int) h
  have q2 := fun h => of_ok (-(N : Int)) h
  have q3 := fun h => of_ok 1 h
  have o1 : ofP (N : Int) = (N, 0) := by
    unfold ofP money
    rw [if_pos (by rw [decide_eq_true_iff]; omega), if_pos (by omega)]; simp
  have o2 : ofP (-(N : Int)) = (0, N) := by
    unfold ofP money
    rw [if_pos (by rw [decide_eq_true_iff]; omega), if_neg (by omega)]; simp
  have o3 : ofP 1 = (1, 0) := rfl
  rw [o1] at q1
  rw [o2] at q2
  rw [o3] at q3
  have e0 := cpl_eql (a := N) (b := 0) (c := N) (d := 0) (by omega) (by omega) (by omega) (by omega)
  have ev1 := fun h => even_ok (d := N) (c := N) (by omega) (by omega) h
  have ev2 := fun h => even_ok (d := N) (c := 0) (by omega) (by omega) h
  have ev3 := fun h => even_ok (d := 0) (c := N) (by omega) (by omega) h
  have ev4 := fun h => even_ok (d := N + 1) (c := N) (by omega) (by omega) h
  have ev5 := fun h => even_ok (d := 0) (c := 0) (by omega) (by omega) h
  rw [decide_eq_true rfl] at ev1 ev5
  rw [decide_eq_false (by omega)] at ev2 ev3 ev4
  have nt := fun h => net_ok (d := N + N) (c := N) (by omega) (by omega) h
  rw [show ((N + N : Nat) : Int) - (N : Int) = N by omega] at nt
  have tn := fun h => turn_ok (fl 0) (fl N) h
  have z2 : ([(N, 0), (0, N)] : List (Nat × Nat)).length < 1000000 := by simp
  have z3 : ([(N, 0), (0, N), (1, 0)] : List (Nat × Nat)).length < 1000000 := by simp
  have z4 : ([(N, 0), (N, 0), (0, N)] : List (Nat × Nat)).length < 1000000 := by simp
  have g2 : ∀ r : LH, callX C 26 [.s (.sl h0.length 0 0 2)] (h0 ++ LO.own 36 [.cpl .f64 (fl N) 0, .cpl .f64 0 (fl N)] :: r) = some (.s (.cpl .f64 (fl N) (fl N)), h0 ++ LO.own 36 [.cpl .f64 (fl N) 0, .cpl .f64 0 (fl N)] :: r) := fun r => by
    have := sum_lit (h := h0 ++ LO.own 36 [.cpl .f64 (fl N) 0, .cpl .f64 0 (fl N)] :: r) (i := h0.length) (p := 0) (l := [(N, 0), (0, N)]) (n := 2) rfl (by rw [get_len]; simp [encC, cx, fl_zero]) z2 (by simp [s1]; omega) (by simp [s2]; omega)
    simpa [s1, s2, cx] using this
  have g3 : ∀ (X : LO) (r : LH), callX C 26 [.s (.sl (h0.length + 1) 0 0 3)] (h0 ++ X :: LO.own 36 [.cpl .f64 (fl N) 0, .cpl .f64 0 (fl N), .cpl .f64 (fl 1) 0] :: r) = some (.s (.cpl .f64 (fl (N + 1)) (fl N)), h0 ++ X :: LO.own 36 [.cpl .f64 (fl N) 0, .cpl .f64 0 (fl N), .cpl .f64 (fl 1) 0] :: r) := fun X r => by
    have := sum_lit (h := h0 ++ X :: LO.own 36 [.cpl .f64 (fl N) 0, .cpl .f64 0 (fl N), .cpl .f64 (fl 1) 0] :: r) (i := h0.length + 1) (p := 0) (l := [(N, 0), (0, N), (1, 0)]) (n := 3) rfl (by rw [get_len_add]; simp [encC, cx, fl_zero]) z3 (by simp [s1]; omega) (by simp [s2]; omega)
    simpa [s1, s2, cx] using this
  have g4 : ∀ (X Y : LO) (r : LH), callX C 26 [.s (.sl (h0.length + 2) 0 0 3)] (h0 ++ X :: Y :: LO.own 36 [.cpl .f64 (fl N) 0, .cpl .f64 (fl N) 0, .cpl .f64 0 (fl N)] :: r) = some (.s (.cpl .f64 (fl (N + N)) (fl N)), h0 ++ X :: Y :: LO.own 36 [.cpl .f64 (fl N) 0, .cpl .f64 (fl N) 0, .cpl .f64 0 (fl N)] :: r) := fun X Y r => by
    have := sum_lit (h := h0 ++ X :: Y :: LO.own 36 [.cpl .f64 (fl N) 0, .cpl .f64 (fl N) 0, .cpl .f64 0 (fl N)] :: r) (i := h0.length + 2) (p := 0) (l := [(N, 0), (N, 0), (0, N)]) (n := 3) rfl (by rw [get_len_add]; simp [encC, cx, fl_zero]) z4 (by simp [s1]; omega) (by simp [s2]; omega)
    simpa [s1, s2, cx] using this
  have wk := fun h => wakes_ok h
  simp only [cx, fl_zero] at *
  simp [wpk_skip, wpk_seq, k_cond, wpk_block, wpk_exit, wpk_ret, wpk_loop, k_ops, k_draw0, t_nil, t_cons, KT_eq, KD_eq, wpo_nil, k_cons, k_step, mt_some, mtk_some, KO_eq, KP_eq, K_normal, K_ret, K_exit, KB_normal, KB_ret, KB_exit, KL_normal, KL_ret, KL_exit, k_ret, k_normal, stepE, isCall, calleeE, opE, wantE, odE, odS, odL, odSL, fget, fput, initE, keepF, List.map_cons, List.map_nil, binE, intOp, strOp, shOp, unE, eqpE, eqnE, neqB, ressE, resE, packL, packE, flat1, fcells, fillE, setL, cellsOf_bind, cellsO_own, cellsO_ro, lenE_sl, lenE_nils, lenE_sl0, bound, rep, minE, maxE, List.getElem?_cons_zero, List.getElem?_cons_succ, get_lt, set_lt, get_len, get_len_add, set_len, set_len_add, List.append_assoc, List.cons_append, List.nil_append, -getElem?_pos, b12, s12_1, s12_2, s12_3, y1, w1, w2, q1, q2, q3, tn, e0, g2, g3, g4, ev1, ev2, ev3, ev4, ev5, nt, wk]
  exact hΨ _ _ rfl
end Go.Proofs.Ytbpagnnfieipcaa.Ev.CT
