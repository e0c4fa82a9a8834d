/- MeasureErrors on the small machine. -/
import Derived.Test.YtcimcccnhbbncaaMsA
import Derived.Test.YtcimcccnhbbncaaEvRow
set_option linter.unusedSimpArgs false
set_option linter.unusedVariables false
namespace Go.Proofs.Ytcimcccnhbbncaa.Ev.CE
open Go

def uk : ByteArray := ⟨#[117, 107]⟩
structure Ca where
  vb : SV
  vr : SV
  bs : List Bu
  rs : List Int
  e : Int
def encC (c : Ca) : List SV := [c.vb, c.vr, .int .i64 c.e]
theorem encC_len (c : Ca) : (encC c).length = 3 := rfl

theorem ofF_zero (r : Int) (hr : 0 ≤ r ∧ r ≤ 1000000) : ofF 0 r = 0 := by
  unfold ofF; simp
theorem ofF_whole (n : Int) : ofF n 1000000 = n := by
  unfold ofF
  split
  · have h := Int.mul_tdiv_add_tmod (2 * n * 1000000 - 1000000) 2000000
    have h1 := Int.tmod_lt_of_pos (2 * n * 1000000 - 1000000) (show (0 : Int) < 2000000 by omega)
    have h2 := Int.lt_tmod_of_pos (2 * n * 1000000 - 1000000) (show (0 : Int) < 2000000 by omega)
    have h3 : (2 * n * 1000000 - 1000000).tmod 2000000 ≤ 0 := by
      have := Int.tmod_nonneg 2000000 (a := -(2 * n * 1000000 - 1000000)) (by omega)
      rw [Int.neg_tmod] at this; omega
    omega
  · have h := Int.mul_tdiv_add_tmod (2 * n * 1000000 + 1000000) 2000000
    have h1 := Int.tmod_lt_of_pos (2 * n * 1000000 + 1000000) (show (0 : Int) < 2000000 by omega)
    have h3 := Int.tmod_nonneg 2000000 (a := 2 * n * 1000000 + 1000000) (by omega)
    omega

set_option maxRecDepth 20000 in
set_option maxHeartbeats 8000000 in
theorem measureErrors_ok {h0 : LH} (nn : Int) : ∃ h', callX C 5 [.s (.int .i64 nn)] h0 = some (.s (.bool true), h') ∧ True := by
  suffices w : WPc C 5 [.s (.int .i64 nn)] h0 fun u _ => u = .s (.bool true) by
    obtain ⟨v, h', e, rfl⟩ := w
    exact ⟨h', e, trivial⟩
  refine WPc.post fun Ψ hΨ => ?_
  refine WPc.intro (e := e5) rfl (by simp [e5]) ?_
  show WPk C b5 _ _ (KR [.tmp 2] _)
  have y1 := fun h => within_ok nn 1000 (by omega) h
  have r1 : 0 ≤ nn % 1000 ∧ nn % 1000 < 1000 := by omega
  generalize nn % 1000 = m' at y1 r1
  obtain ⟨m, hm⟩ : ∃ m, m = 1 + m' := ⟨_, rfl⟩
  have w1 : IntKind.i64.wrap (1 + m') = m := by rw [hm]; exact wrap_small (by omega) (by omega)
  have rm : 1 ≤ m ∧ m ≤ 1000 := by omega
  have t0 := new_tb h0
  have g0 := Gr.self h0 [LO.own 79 [.nils]]
  simp [wpk_skip, wpk_seq, k_cond, wpk_block, wpk_exit, wpk_ret, wpk_loop, k_ops, k_draw0, t_nil, t_cons, KT_eq, KD_eq, wpo_nil, k_cons, k_step, mt_some, mtk_some, KO_eq, KP_eq, K_normal, K_ret, K_exit, KB_normal, KB_ret, KB_exit, KL_normal, KL_ret, KL_exit, k_ret, k_normal, stepE, isCall, calleeE, opE, wantE, odE, odS, odL, odSL, fget, fput, initE, keepF, List.map_cons, List.map_nil, binE, intOp, strOp, shOp, unE, eqpE, eqnE, neqB, ressE, resE, packL, packE, flat1, fcells, fillE, setL, cellsOf_bind, cellsO_own, cellsO_ro, lenE_sl, lenE_nils, lenE_sl0, bound, rep, minE, maxE, List.getElem?_cons_zero, List.getElem?_cons_succ, get_lt, set_lt, get_len, get_len_add, set_len, set_len_add, List.append_assoc, List.cons_append, List.nil_append, -getElem?_pos, b5, s5_1, s5_2, s5_3, new_ok, y1, w1]
  refine WPc.go (add_ok t0 uk 5 250000 8) ?_
  rintro _ h1 ⟨c1, rfl, v1, t1⟩
  have e1 : addR [] uk 5 250000 8 = (0, [⟨uk, 5, 250000, 8⟩]) := by
    unfold addR
    rw [if_neg (by decide +kernel)]; rfl
  rw [e1] at t1 ⊢
  have g1 := c1.base t0 g0
  simp [wpk_skip, wpk_seq, k_cond, wpk_block, wpk_exit, wpk_ret, wpk_loop, k_ops, k_draw0, t_nil, t_cons, KT_eq, KD_eq, wpo_nil, k_cons, k_step, mt_some, mtk_some, KO_eq, KP_eq, K_normal, K_ret, K_exit, KB_normal, KB_ret, KB_exit, KL_normal, KL_ret, KL_exit, k_ret, k_normal, stepE, isCall, calleeE, opE, wantE, odE, odS, odL, odSL, fget, fput, initE, keepF, List.map_cons, List.map_nil, binE, intOp, strOp, shOp, unE, eqpE, eqnE, neqB, ressE, resE, packL, packE, flat1, fcells, fillE, setL, cellsOf_bind, cellsO_own, cellsO_ro, lenE_sl, lenE_nils, lenE_sl0, bound, rep, minE, maxE, List.getElem?_cons_zero, List.getElem?_cons_succ, get_lt, set_lt, get_len, get_len_add, set_len, set_len_add, List.append_assoc, List.cons_append, List.nil_append, -getElem?_pos, s5_4, s5_5]
  have o1 : (h1 ++ [LO.own 30 [.int .i64 1, .int .i64 5, .int .i64 m]])[h1.length]? = some (.own 30 (([⟨1, 5, m⟩] : List Bu).flatMap encB)) := get_len
  have rB := Rd.lit encB_len o1 (p := 0)
  have t2 := t1.gr (Gr.self h1 [LO.own 30 [.int .i64 1, .int .i64 5, .int .i64 m]])
  generalize h1 ++ [LO.own 30 [.int .i64 1, .int .i64 5, .int .i64 m]] = H2 at *
  refine WPc.go (rates_ok t2 uk rB (by simp) (-1)) ?_
  rintro _ h3 ⟨g3, w3, rfl, _⟩
  have f3 : ratesF [⟨uk, 5, 250000, 8⟩] uk [⟨1, 5, m⟩] (-1) = ([], 1) := rfl
  rw [f3]
  have t3 := t2.gr g3
  simp [wpk_skip, wpk_seq, k_cond, wpk_block, wpk_exit, wpk_ret, wpk_loop, k_ops, k_draw0, t_nil, t_cons, KT_eq, KD_eq, wpo_nil, k_cons, k_step, mt_some, mtk_some, KO_eq, KP_eq, K_normal, K_ret, K_exit, KB_normal, KB_ret, KB_exit, KL_normal, KL_ret, KL_exit, k_ret, k_normal, stepE, isCall, calleeE, opE, wantE, odE, odS, odL, odSL, fget, fput, initE, keepF, List.map_cons, List.map_nil, binE, intOp, strOp, shOp, unE, eqpE, eqnE, neqB, ressE, resE, packL, packE, flat1, fcells, fillE, setL, cellsOf_bind, cellsO_own, cellsO_ro, lenE_sl, lenE_nils, lenE_sl0, bound, rep, minE, maxE, List.getElem?_cons_zero, List.getElem?_cons_succ, get_lt, set_lt, get_len, get_len_add, set_len, set_len_add, List.append_assoc, List.cons_append, List.nil_append, -getElem?_pos, s5_6]
  refine WPc.go (rates_ok t3 uk (rB.gr g3) (by simp) 7) ?_
  rintro _ h4 ⟨g4, w4, rfl, _⟩
  have uke : (uk.toList == uk.toList) = true := by simp
  have f4 : ratesF [⟨uk, 5, 250000, 8⟩] uk [⟨1, 5, m⟩] 7 = ([], 7) := by
    unfold ratesF
    rw [if_pos (by omega), ratesGo_cons]
    have : bestF uk (max 5 (7 / 4)) 7 [⟨uk, 5, 250000, 8⟩] = none := by
      simp only [bestF, List.foldl_cons, List.foldl_nil, stepB]
      rw [if_pos (by right; right; decide)]
    rw [this]
  rw [f4]
  have t4 := t3.gr g4
  simp [wpk_skip, wpk_seq, k_cond, wpk_block, wpk_exit, wpk_ret, wpk_loop, k_ops, k_draw0, t_nil, t_cons, KT_eq, KD_eq, wpo_nil, k_cons, k_step, mt_some, mtk_some, KO_eq, KP_eq, K_normal, K_ret, K_exit, KB_normal, KB_ret, KB_exit, KL_normal, KL_ret, KL_exit, k_ret, k_normal, stepE, isCall, calleeE, opE, wantE, odE, odS, odL, odSL, fget, fput, initE, keepF, List.map_cons, List.map_nil, binE, intOp, strOp, shOp, unE, eqpE, eqnE, neqB, ressE, resE, packL, packE, flat1, fcells, fillE, setL, cellsOf_bind, cellsO_own, cellsO_ro, lenE_sl, lenE_nils, lenE_sl0, bound, rep, minE, maxE, List.getElem?_cons_zero, List.getElem?_cons_succ, get_lt, set_lt, get_len, get_len_add, set_len, set_len_add, List.append_assoc, List.cons_append, List.nil_append, -getElem?_pos, s5_7]
  refine WPc.go (rates_ok t4 uk ((rB.gr g3).gr g4) (by simp) 8) ?_
  rintro _ h5 ⟨g5, w5, rfl, rW⟩
  have f5 : ratesF [⟨uk, 5, 250000, 8⟩] uk [⟨1, 5, m⟩] 8 = ([250000], 0) := by
    unfold ratesF
    rw [if_pos (by omega), ratesGo_cons]
    have : bestF uk (max 5 (8 / 4)) 8 [⟨uk, 5, 250000, 8⟩] = some ⟨uk, 5, 250000, 8⟩ := by
      simp only [bestF, List.foldl_cons, List.foldl_nil, stepB]
      rw [if_neg (by rw [uke]; decide)]
    rw [this]; rfl
  rw [f5] at rW ⊢
  have t5 := t4.gr g5
  simp [wpk_skip, wpk_seq, k_cond, wpk_block, wpk_exit, wpk_ret, wpk_loop, k_ops, k_draw0, t_nil, t_cons, KT_eq, KD_eq, wpo_nil, k_cons, k_step, mt_some, mtk_some, KO_eq, KP_eq, K_normal, K_ret, K_exit, KB_normal, KB_ret, KB_exit, KL_normal, KL_ret, KL_exit, k_ret, k_normal, stepE, isCall, calleeE, opE, wantE, odE, odS, odL, odSL, fget, fput, initE, keepF, List.map_cons, List.map_nil, binE, intOp, strOp, shOp, unE, eqpE, eqnE, neqB, ressE, resE, packL, packE, flat1, fcells, fillE, setL, cellsOf_bind, cellsO_own, cellsO_ro, lenE_sl, lenE_nils, lenE_sl0, bound, rep, minE, maxE, List.getElem?_cons_zero, List.getElem?_cons_succ, get_lt, set_lt, get_len, get_len_add, set_len, set_len_add, List.append_assoc, List.cons_append, List.nil_append, -getElem?_pos, s5_8]
  have o6 : (h5 ++ [LO.own 30 [.int .i64 1, .int .i64 4, .int .i64 m]])[h5.length]? = some (.own 30 (([⟨1, 4, m⟩] : List Bu).flatMap encB)) := get_len
  have rB6 := Rd.lit encB_len o6 (p := 0)
  have t6 := t5.gr (Gr.self h5 [LO.own 30 [.int .i64 1, .int .i64 4, .int .i64 m]])
  have rW6 := rW.gr (Gr.self h5 [LO.own 30 [.int .i64 1, .int .i64 4, .int .i64 m]])
  have rB5 := (((rB.gr g3).gr g4).gr g5).gr (Gr.self h5 [LO.own 30 [.int .i64 1, .int .i64 4, .int .i64 m]])
  generalize h5 ++ [LO.own 30 [.int .i64 1, .int .i64 4, .int .i64 m]] = H6 at *
  refine WPc.go (rates_ok t6 uk rB6 (by simp) 8) ?_
  rintro _ h7 ⟨g7, w7, rfl, _⟩
  have f7 : ratesF [⟨uk, 5, 250000, 8⟩] uk [⟨1, 4, m⟩] 8 = ([], 7) := by
    unfold ratesF
    rw [if_pos (by omega), ratesGo_cons]
    have : bestF uk (max 4 (8 / 4)) 8 [⟨uk, 5, 250000, 8⟩] = none := by
      simp only [bestF, List.foldl_cons, List.foldl_nil, stepB]
      rw [if_pos (by right; left; decide)]
    rw [this]
  rw [f7]
  have o8 : (h7 ++ [LO.own 3 [.int .i64 250000]])[h7.length]? = some (.own 3 (([250000] : List Int).flatMap encI)) := get_len
  have hs := same_ok ((rW6.gr g7).gr (Gr.self h7 [LO.own 3 [.int .i64 250000]])) (Rd.lit encI_len o8 (p := 0)) (by decide)
  simp at hs
  have rB8 := (rB5.gr g7).gr (Gr.self h7 [LO.own 3 [.int .i64 250000]])
  have wm : IntKind.i64.wrap (100000000000 + m) = 100000000000 + m := wrap_small (by omega) (by omega)
  simp [wpk_skip, wpk_seq, k_cond, wpk_block, wpk_exit, wpk_ret, wpk_loop, k_ops, k_draw0, t_nil, t_cons, KT_eq, KD_eq, wpo_nil, k_cons, k_step, mt_some, mtk_some, KO_eq, KP_eq, K_normal, K_ret, K_exit, KB_normal, KB_ret, KB_exit, KL_normal, KL_ret, KL_exit, k_ret, k_normal, stepE, isCall, calleeE, opE, wantE, odE, odS, odL, odSL, fget, fput, initE, keepF, List.map_cons, List.map_nil, binE, intOp, strOp, shOp, unE, eqpE, eqnE, neqB, ressE, resE, packL, packE, flat1, fcells, fillE, setL, cellsOf_bind, cellsO_own, cellsO_ro, lenE_sl, lenE_nils, lenE_sl0, bound, rep, minE, maxE, List.getElem?_cons_zero, List.getElem?_cons_succ, get_lt, set_lt, get_len, get_len_add, set_len, set_len_add, List.append_assoc, List.cons_append, List.nil_append, -getElem?_pos, s5_9, s5_10, hs, wm]
  obtain ⟨L0, hL0⟩ : ∃ L0, L0 = [LO.own 3 [.int .i64 250000], LO.own 3 [.int .i64 1], LO.own 3 [.int .i64 (-1)], LO.own 3 [.int .i64 1000001],
        LO.own 30 [.int .i64 1, .int .i64 0, .int .i64 (100000000000 + m)], LO.own 3 [.int .i64 1],
        LO.own 30 [.int .i64 1, .int .i64 0, .int .i64 100000000000, .int .i64 2, .int .i64 0, .int .i64 m], LO.own 3 [.int .i64 1000000, .int .i64 1000000],
        LO.own 42 [.sl h1.length 0 0 1, .nils, .int .i64 1, .nils, .sl (h7.length + 1) 0 0 1, .int .i64 1, .sl h1.length 0 0 1, .sl (h7.length + 2) 0 0 1, .int .i64 1,
          .sl h1.length 0 0 1, .sl (h7.length + 3) 0 0 1, .int .i64 1, .sl (h7.length + 4) 0 0 1, .sl (h7.length + 5) 0 0 1, .int .i64 1,
          .sl (h7.length + 6) 0 0 2, .sl (h7.length + 7) 0 0 2, .int .i64 6, .nils, .nils, .int .i64 0]] := ⟨_, rfl⟩
  rw [← hL0]
  have hi : ∀ (k : Nat) (x : LO), L0[k]? = some x → (h7 ++ L0)[h7.length + k]? = some x := fun k x hx => by rw [get_len_add]; exact hx
  have rBx := (rB5.gr g7).gr (Gr.self h7 L0)
  obtain ⟨cs, hcs⟩ : ∃ cs : List Ca, cs = [⟨.sl h1.length 0 0 1, .nils, [⟨1, 5, m⟩], [], 1⟩, ⟨.nils, .sl (h7.length + 1) 0 0 1, [], [1], 1⟩, ⟨.sl h1.length 0 0 1, .sl (h7.length + 2) 0 0 1, [⟨1, 5, m⟩], [-1], 1⟩,
    ⟨.sl h1.length 0 0 1, .sl (h7.length + 3) 0 0 1, [⟨1, 5, m⟩], [1000001], 1⟩, ⟨.sl (h7.length + 4) 0 0 1, .sl (h7.length + 5) 0 0 1, [⟨1, 0, 100000000000 + m⟩], [1], 1⟩,
    ⟨.sl (h7.length + 6) 0 0 2, .sl (h7.length + 7) 0 0 2, [⟨1, 0, 100000000000⟩, ⟨2, 0, m⟩], [1000000, 1000000], 6⟩, ⟨.nils, .nils, [], [], 0⟩] := ⟨_, rfl⟩
  have hrd : Rd (h7 ++ L0) 42 3 encC (.sl (h7.length + 8) 0 0 7) cs := by
    have : (h7 ++ L0)[h7.length + 8]? = some (.own 42 (cs.flatMap encC)) := hi 8 _ (by rw [hL0, hcs]; rfl)
    have := Rd.lit encC_len this (p := 0)
    rw [hcs] at this ⊢; exact this
  have nilR : ∀ {α : Type} (t z : Nat) (enc : α → List SV), Rd (h7 ++ L0) t z enc .nils ([] : List α) := fun t z enc => .inl ⟨rfl, .inl rfl⟩
  have hm1 : -100000000000 ≤ m ∧ m ≤ 100000000000 := by omega
  have all : ∀ c ∈ cs, Rd (h7 ++ L0) 30 3 encB c.vb c.bs ∧ Rd (h7 ++ L0) 3 1 encI c.vr c.rs ∧ c.bs.length < 1000 ∧ c.rs.length < 1000 ∧ tempF c.bs c.rs = (0, c.e) := by
    intro c hc
    rw [hcs] at hc
    simp only [List.mem_cons, List.not_mem_nil, or_false] at hc
    rcases hc with rfl | rfl | rfl | rfl | rfl | rfl | rfl
    · exact ⟨rBx, nilR _ _ _, by simp, by simp, by unfold tempF; rw [if_pos (by simp)]⟩
    · exact ⟨nilR _ _ _, Rd.lit (l := [1]) encI_len (hi 1 _ (by rw [hL0]; rfl)), by simp, by simp, by unfold tempF; rw [if_pos (by simp)]⟩
    · refine ⟨rBx, Rd.lit (l := [-1]) encI_len (hi 2 _ (by rw [hL0]; rfl)), by simp, by simp, ?_⟩
      unfold tempF; rw [if_neg (by simp), tempGo_cons]; simp [right]
    · refine ⟨rBx, Rd.lit (l := [1000001]) encI_len (hi 3 _ (by rw [hL0]; rfl)), by simp, by simp, ?_⟩
      unfold tempF; rw [if_neg (by simp), tempGo_cons]; simp [right]
    · refine ⟨Rd.lit (l := [⟨1, 0, 100000000000 + m⟩]) encB_len (hi 4 _ (by rw [hL0]; rfl)), Rd.lit (l := [1]) encI_len (hi 5 _ (by rw [hL0]; rfl)), by simp, by simp, ?_⟩
      unfold tempF; rw [if_neg (by simp), tempGo_cons]
      have : money (100000000000 + m) = false := by unfold money; exact decide_eq_false (by omega)
      simp [this]
    · refine ⟨Rd.lit (l := [⟨1, 0, 100000000000⟩, ⟨2, 0, m⟩]) encB_len (hi 6 _ (by rw [hL0]; rfl)), Rd.lit (l := [1000000, 1000000]) encI_len (hi 7 _ (by rw [hL0]; rfl)), by simp, by simp, ?_⟩
      unfold tempF; rw [if_neg (by simp), tempGo_cons, tempGo_cons, tempGo_nil, ofF_whole, ofF_whole]
      have e1 : money m = true := by unfold money; exact decide_eq_true hm1
      have e2 : money 100000000000 = true := by decide
      have e3 : money (0 - 100000000000 - m) = false := by unfold money; exact decide_eq_false (by omega)
      have e4 : right 1000000 = true := by decide
      simp only [e1, e2, e3, e4]; rfl
    · exact ⟨nilR _ _ _, nilR _ _ _, by simp, by simp, by decide⟩
  have hcl : cs.length = 7 := by rw [hcs]; rfl
  clear hcs hL0 hi rBx nilR
  generalize h7 ++ L0 = H9 at *
  refine WPl.inv2 (fun n fr h' => Gr H9 h' ∧ ∃ k : Nat, k ≤ 7 ∧ n = 7 - k ∧ fr = [(0, some (.s (.int .i64 m))), (108, some (.s (.sl (h7.length + 8) 0 0 7))), (109, some (.s (.int .i64 7))), (110, some (.s (.int .i64 k)))]) ?_ _ _ _ ⟨Gr.refl _, 0, by omega, rfl, rfl⟩
  rintro I hI n fr h' ⟨gr, k, hk, rfl, rfl⟩
  refine ⟨by simp [keepF, fget], ?_⟩
  by_cases hlt : k < 7
  · have hlt' : (k : Int) < 7 := by omega
    have hkc : k < cs.length := by omega
    obtain ⟨j1, p1, q1, ob1, vs1, e, d1, d2, d3, d4, -⟩ := (hrd.gr gr).at encC_len hkc
    simp only [SV.sl.injEq] at e
    obtain ⟨rfl, rfl, rfl, -⟩ := e
    have d5 := lt_of_some d1
    obtain ⟨a1, a2, a3, a4, a5⟩ := all _ (List.getElem_mem hkc)
    have z3 : IntKind.i64.wrap ((k : Int) + 1) = ((k + 1 : Nat) : Int) := wrap_small (by omega) (by omega)
    simp only [encC, Nat.zero_add] at d3 d4
    generalize cs[k] = c at *
    simp [wpk_skip, wpk_seq, k_cond, wpk_block, wpk_exit, wpk_ret, wpk_loop, k_ops, k_draw0, t_nil, t_cons, KT_eq, KD_eq, wpo_nil, k_cons, k_step, mt_some, mtk_some, KO_eq, KP_eq, K_normal, K_ret, K_exit, KB_normal, KB_ret, KB_exit, KL_normal, KL_ret, KL_exit, k_ret, k_normal, stepE, isCall, calleeE, opE, wantE, odE, odS, odL, odSL, fget, fput, initE, keepF, List.map_cons, List.map_nil, binE, intOp, strOp, shOp, unE, eqpE, eqnE, neqB, ressE, resE, packL, packE, flat1, fcells, fillE, setL, cellsOf_bind, cellsO_own, cellsO_ro, lenE_sl, lenE_nils, lenE_sl0, bound, rep, minE, maxE, List.getElem?_cons_zero, List.getElem?_cons_succ, get_lt, set_lt, get_len, get_len_add, set_len, set_len_add, List.append_assoc, List.cons_append, List.nil_append, -getElem?_pos, l5_0_2, l5_0_1, l5_0, hlt', d1, d2, d3, d4, d5]
    refine WPc.go (temp_ok ((a1.gr gr).gr (Gr.self h' _)) ((a2.gr gr).gr (Gr.self h' _)) a3 a4) ?_
    rintro _ hx ⟨gx, rfl⟩
    rw [a5]
    have d6 : hx[h'.length]? = some (.own 42 [c.vb, c.vr, .int .i64 c.e]) := gx.get get_len
    have n1 : (c.e != c.e) = false := by simp
    cases n2 : c.e != 0 <;>
    · simp [wpk_skip, wpk_seq, k_cond, wpk_block, wpk_exit, wpk_ret, wpk_loop, k_ops, k_draw0, t_nil, t_cons, KT_eq, KD_eq, wpo_nil, k_cons, k_step, mt_some, mtk_some, KO_eq, KP_eq, K_normal, K_ret, K_exit, KB_normal, KB_ret, KB_exit, KL_normal, KL_ret, KL_exit, k_ret, k_normal, stepE, isCall, calleeE, opE, wantE, odE, odS, odL, odSL, fget, fput, initE, keepF, List.map_cons, List.map_nil, binE, intOp, strOp, shOp, unE, eqpE, eqnE, neqB, ressE, resE, packL, packE, flat1, fcells, fillE, setL, cellsOf_bind, cellsO_own, cellsO_ro, lenE_sl, lenE_nils, lenE_sl0, bound, rep, minE, maxE, List.getElem?_cons_zero, List.getElem?_cons_succ, get_lt, set_lt, get_len, get_len_add, set_len, set_len_add, List.append_assoc, List.cons_append, List.nil_append, -getElem?_pos, d6, n1, n2, z3]
      exact ⟨_, by omega, hI _ _ _ ⟨(gr.trans (Gr.self h' _)).trans gx, k + 1, by omega, rfl, rfl⟩⟩
  · obtain rfl : k = 7 := by omega
    have wn : IntKind.i64.wrap (-m) = -m := wrap_small (by omega) (by omega)
    have l1 := loss_ok (-m) 5
    have l2 := loss_ok m (-5)
    have l3 := loss_ok (100000000000 + m) 5
    have l4 := loss_ok m 1000000
    have q1 : lossF (-m) 5 = (0, 1) := by unfold lossF; rw [if_neg (by omega)]
    have q2 : lossF m (-5) = (0, 1) := by unfold lossF; rw [if_neg (by omega)]
    have q3 : lossF (100000000000 + m) 5 = (0, 1) := by unfold lossF; rw [if_neg (by omega)]
    have q4 : lossF m 1000000 = (m, 0) := by unfold lossF; rw [if_pos (by omega), ofF_whole]
    rw [q1] at l1
    rw [q2] at l2
    rw [q3] at l3
    rw [q4] at l4
    simp [wpk_skip, wpk_seq, k_cond, wpk_block, wpk_exit, wpk_ret, wpk_loop, k_ops, k_draw0, t_nil, t_cons, KT_eq, KD_eq, wpo_nil, k_cons, k_step, mt_some, mtk_some, KO_eq, KP_eq, K_normal, K_ret, K_exit, KB_normal, KB_ret, KB_exit, KL_normal, KL_ret, KL_exit, k_ret, k_normal, stepE, isCall, calleeE, opE, wantE, odE, odS, odL, odSL, fget, fput, initE, keepF, List.map_cons, List.map_nil, binE, intOp, strOp, shOp, unE, eqpE, eqnE, neqB, ressE, resE, packL, packE, flat1, fcells, fillE, setL, cellsOf_bind, cellsO_own, cellsO_ro, lenE_sl, lenE_nils, lenE_sl0, bound, rep, minE, maxE, List.getElem?_cons_zero, List.getElem?_cons_succ, get_lt, set_lt, get_len, get_len_add, set_len, set_len_add, List.append_assoc, List.cons_append, List.nil_append, -getElem?_pos, l5_0_2, l5_0_1, l5_0, s5_11, s5_12, s5_13, s5_14, s5_15, wn, wm, l1, l2, l3, l4]
    refine WPc.go (mwakes_ok _) ?_
    rintro _ hz ⟨_, rfl⟩
    simp [wpk_skip, wpk_seq, k_cond, wpk_block, wpk_exit, wpk_ret, wpk_loop, k_ops, k_draw0, t_nil, t_cons, KT_eq, KD_eq, wpo_nil, k_cons, k_step, mt_some, mtk_some, KO_eq, KP_eq, K_normal, K_ret, K_exit, KB_normal, KB_ret, KB_exit, KL_normal, KL_ret, KL_exit, k_ret, k_normal, stepE, isCall, calleeE, opE, wantE, odE, odS, odL, odSL, fget, fput, initE, keepF, List.map_cons, List.map_nil, binE, intOp, strOp, shOp, unE, eqpE, eqnE, neqB, ressE, resE, packL, packE, flat1, fcells, fillE, setL, cellsOf_bind, cellsO_own, cellsO_ro, lenE_sl, lenE_nils, lenE_sl0, bound, rep, minE, maxE, List.getElem?_cons_zero, List.getElem?_cons_succ, get_lt, set_lt, get_len, get_len_add, set_len, set_len_add, List.append_assoc, List.cons_append, List.nil_append, -getElem?_pos, ]
    exact hΨ _ _ rfl
end Go.Proofs.Ytcimcccnhbbncaa.Ev.CE
