/- EnactLater on the small machine. -/
import Derived.Test.YtcimcccnhbbncaaEnB
import Derived.Test.YtcimcccnhbbncaaEvRow
set_option linter.unusedSimpArgs false
set_option linter.unusedVariables false
namespace Go.Proofs.Ytcimcccnhbbncaa.Ev.CE
open Go

structure Lk where
  y : Int
  p : Int
  r : Int
  ok : Bool
def encL (c : Lk) : List SV := [.int .i64 c.y, .int .i64 c.p, .int .i64 c.r, .bool c.ok]
theorem encL_len (c : Lk) : (encL c).length = 4 := rfl

theorem addR_new {l : List Ro} {j : ByteArray} {y r p : Int} (h1 : argOk j y r p = true) (h2 : l.any (sameR j y p) = false) (h3 : l.length < 24) : addR l j y r p = (0, l ++ [⟨j, y, r, p⟩]) := by
  unfold addR
  rw [h1, h2, if_neg (by simp), if_neg (by simp), if_neg (by omega)]
theorem addR_same {l : List Ro} {j : ByteArray} {y r p : Int} (h1 : argOk j y r p = true) (h2 : l.any (sameR j y p) = true) : addR l j y r p = (4, l) := by
  unfold addR
  rw [h1, h2, if_neg (by simp), if_pos rfl]

def xs : ByteArray := ⟨#[120]⟩
theorem xs_ne : xs.toList.isEmpty = false := by decide +kernel
theorem arg_ok {y r p : Int} (hy : 0 ≤ y ∧ y ≤ 99) (hr : 0 ≤ r ∧ r ≤ 1000000) (hp : 0 ≤ p ∧ p ≤ 399) : argOk xs y r p = true := by
  unfold argOk
  rw [xs_ne, decide_eq_true hy, decide_eq_true hr, decide_eq_true hp]; rfl

theorem later_rates {Y A B P L : Int} (hL : 1 ≤ L) (hL2 : L ≤ 50) : ∀ c ∈ ([⟨Y, P - 1, 0, false⟩, ⟨Y - 1, P, 0, false⟩, ⟨Y, P, A, true⟩, ⟨Y + 1, P, A, true⟩, ⟨Y + 2, P, B, true⟩, ⟨Y + 9, P + 90, B, true⟩, ⟨Y, P + L, B, true⟩, ⟨Y + 1, P + L - 1, A, true⟩, ⟨Y + 1, P + L, B, true⟩] : List Lk),
    rateOf (bestF xs c.y c.p [⟨xs, Y, A, P⟩, ⟨xs, Y + 2, B, P⟩, ⟨xs, Y, B, P + L⟩]) = c.r ∧ (bestF xs c.y c.p [⟨xs, Y, A, P⟩, ⟨xs, Y + 2, B, P⟩, ⟨xs, Y, B, P + L⟩]).isSome = c.ok := by
  have e : (xs.toList == xs.toList) = true := by simp
  intro c hc
  simp only [bestF, List.foldl_cons, List.foldl_nil, stepB, e, Bool.true_eq_false, false_or]
  simp only [List.mem_cons, List.not_mem_nil, or_false] at hc
  rcases hc with rfl | rfl | rfl | rfl | rfl | rfl | rfl | rfl | rfl <;> dsimp only
  · rw [if_pos (by omega), if_pos (by omega), if_pos (by omega)]; exact ⟨rfl, rfl⟩
  · rw [if_pos (by omega), if_pos (by omega), if_pos (by omega)]; exact ⟨rfl, rfl⟩
  · rw [if_neg (by omega : ¬ (Y > Y ∨ P > P)), if_pos (by omega : Y + 2 > Y ∨ P > P), if_pos (by omega : Y > Y ∨ P + L > P)]; exact ⟨rfl, rfl⟩
  · rw [if_neg (by omega : ¬ (Y > Y + 1 ∨ P > P)), if_pos (by omega : Y + 2 > Y + 1 ∨ P > P), if_pos (by omega : Y > Y + 1 ∨ P + L > P)]; exact ⟨rfl, rfl⟩
  · rw [if_neg (by omega : ¬ (Y > Y + 2 ∨ P > P)), if_neg (by omega : ¬ (Y + 2 > Y + 2 ∨ P > P)), if_pos (by omega : Y > Y + 2 ∨ P + L > P)]
    dsimp only
    rw [if_pos (by omega)]; exact ⟨rfl, rfl⟩
  · rw [if_neg (by omega : ¬ (Y > Y + 9 ∨ P > P + 90)), if_neg (by omega : ¬ (Y + 2 > Y + 9 ∨ P > P + 90)), if_neg (by omega : ¬ (Y > Y + 9 ∨ P + L > P + 90))]
    dsimp only
    rw [if_pos (by omega : Y + 2 > Y ∨ Y + 2 = Y ∧ P > P)]
    dsimp only
    rw [if_neg (by omega)]; exact ⟨rfl, rfl⟩
  · rw [if_neg (by omega : ¬ (Y > Y ∨ P > P + L)), if_pos (by omega : Y + 2 > Y ∨ P > P + L), if_neg (by omega : ¬ (Y > Y ∨ P + L > P + L))]
    dsimp only
    rw [if_pos (by omega)]; exact ⟨rfl, rfl⟩
  · rw [if_neg (by omega : ¬ (Y > Y + 1 ∨ P > P + L - 1)), if_pos (by omega : Y + 2 > Y + 1 ∨ P > P + L - 1), if_pos (by omega : Y > Y + 1 ∨ P + L > P + L - 1)]; exact ⟨rfl, rfl⟩
  · rw [if_neg (by omega : ¬ (Y > Y + 1 ∨ P > P + L)), if_pos (by omega : Y + 2 > Y + 1 ∨ P > P + L), if_neg (by omega : ¬ (Y > Y + 1 ∨ P + L > P + L))]
    dsimp only
    rw [if_pos (by omega)]; exact ⟨rfl, rfl⟩

set_option maxRecDepth 20000 in
set_option maxHeartbeats 4000000 in
theorem enactLater_ok {h0 : LH} (year a b at0 later : Int) : ∃ h', callX C 10 [.s (.int .i64 year), .s (.int .i64 a), .s (.int .i64 b), .s (.int .i64 at0), .s (.int .i64 later)] h0 = some (.s (.bool true), h') ∧ True := by
  suffices w : WPc C 10 [.s (.int .i64 year), .s (.int .i64 a), .s (.int .i64 b), .s (.int .i64 at0), .s (.int .i64 later)] h0 fun u _ => u = .s (.bool true) by
    obtain ⟨v, h', e, rfl⟩ := w
    exact ⟨h', e, trivial⟩
  refine WPc.post fun Ψ hΨ => ?_
  refine WPc.intro (e := e10) rfl (by simp [e10]) ?_
  show WPk C b10 _ _ (KR [.tmp 10] _)
  have y1 := fun h => within_ok year 90 (by omega) h
  have y2 := fun h => within_ok at0 300 (by omega) h
  have y3 := fun h => within_ok a 1000001 (by omega) h
  have y4 := fun h => within_ok b 1000001 (by omega) h
  have y5 := fun h => within_ok later 50 (by omega) h
  have r1 : 0 ≤ year % 90 ∧ year % 90 < 90 := by omega
  have r2 : 0 ≤ at0 % 300 ∧ at0 % 300 < 300 := by omega
  have r3 : 0 ≤ a % 1000001 ∧ a % 1000001 < 1000001 := by omega
  have r4 : 0 ≤ b % 1000001 ∧ b % 1000001 < 1000001 := by omega
  have r5 : 0 ≤ later % 50 ∧ later % 50 < 50 := by omega
  generalize year % 90 = Y at y1 r1
  generalize at0 % 300 = P at y2 r2
  generalize a % 1000001 = A at y3 r3
  generalize b % 1000001 = B at y4 r4
  generalize later % 50 = L' at y5 r5
  obtain ⟨L, hL⟩ : ∃ L, L = 1 + L' := ⟨_, rfl⟩
  have w1 : IntKind.i64.wrap (1 + L') = L := by rw [hL]; exact wrap_small (by omega) (by omega)
  have w2 : IntKind.i64.wrap (Y + 2) = Y + 2 := wrap_small (by omega) (by omega)
  have w3 : IntKind.i64.wrap (P + L) = P + L := wrap_small (by omega) (by omega)
  have w4 : IntKind.i64.wrap (P - 1) = P - 1 := wrap_small (by omega) (by omega)
  have w5 : IntKind.i64.wrap (Y - 1) = Y - 1 := wrap_small (by omega) (by omega)
  have w6 : IntKind.i64.wrap (Y + 1) = Y + 1 := wrap_small (by omega) (by omega)
  have w7 : IntKind.i64.wrap (Y + 9) = Y + 9 := wrap_small (by omega) (by omega)
  have w8 : IntKind.i64.wrap (P + 90) = P + 90 := wrap_small (by omega) (by omega)
  have w9 : IntKind.i64.wrap (P + L - 1) = P + L - 1 := wrap_small (by omega) (by omega)
  have hxx : (xs.toList == xs.toList) = true := by simp
  have t0 := new_tb h0
  simp [wpk_skip, wpk_seq, k_cond, wpk_block, wpk_exit, wpk_ret, wpk_loop, k_ops, k_draw0, t_nil, t_cons, KT_eq, KD_eq, wpo_nil, k_cons, k_step, mt_some, mtk_some, KO_eq, KP_eq, K_normal, K_ret, K_exit, KB_normal, KB_ret, KB_exit, KL_normal, KL_ret, KL_exit, k_ret, k_normal, stepE, isCall, calleeE, opE, wantE, odE, odS, odL, odSL, fget, fput, initE, keepF, List.map_cons, List.map_nil, binE, intOp, strOp, shOp, unE, eqpE, eqnE, neqB, ressE, resE, packL, packE, flat1, fcells, fillE, setL, cellsOf_bind, cellsO_own, cellsO_ro, lenE_sl, lenE_nils, lenE_sl0, bound, rep, minE, maxE, List.getElem?_cons_zero, List.getElem?_cons_succ, get_lt, set_lt, get_len, get_len_add, set_len, set_len_add, List.append_assoc, List.cons_append, List.nil_append, -getElem?_pos, b10, s10_1, s10_2, s10_3, s10_4, s10_5, new_ok, y1, y2, y3, y4, y5, w1]
  refine WPc.go (add_ok t0 xs Y A P) ?_
  rintro _ h1 ⟨c1, rfl, v1, t1⟩
  have g1 := c1.base t0 (Gr.self _ _)
  rw [addR_new (arg_ok (by omega) (by omega) (by omega)) rfl (by simp)] at t1 ⊢
  simp only [List.nil_append, List.cons_append] at t1 ⊢
  simp [wpk_skip, wpk_seq, k_cond, wpk_block, wpk_exit, wpk_ret, wpk_loop, k_ops, k_draw0, t_nil, t_cons, KT_eq, KD_eq, wpo_nil, k_cons, k_step, mt_some, mtk_some, KO_eq, KP_eq, K_normal, K_ret, K_exit, KB_normal, KB_ret, KB_exit, KL_normal, KL_ret, KL_exit, k_ret, k_normal, stepE, isCall, calleeE, opE, wantE, odE, odS, odL, odSL, fget, fput, initE, keepF, List.map_cons, List.map_nil, binE, intOp, strOp, shOp, unE, eqpE, eqnE, neqB, ressE, resE, packL, packE, flat1, fcells, fillE, setL, cellsOf_bind, cellsO_own, cellsO_ro, lenE_sl, lenE_nils, lenE_sl0, bound, rep, minE, maxE, List.getElem?_cons_zero, List.getElem?_cons_succ, get_lt, set_lt, get_len, get_len_add, set_len, set_len_add, List.append_assoc, List.cons_append, List.nil_append, -getElem?_pos, w2]
  refine WPc.go (add_ok t1 xs (Y + 2) B P) ?_
  rintro _ h2 ⟨c2, rfl, v2, t2⟩
  have g2 := c2.base t1 g1
  rw [addR_new (arg_ok (by omega) (by omega) (by omega)) (by simp [sameR, hxx]; omega) (by simp)] at t2 ⊢
  simp only [List.nil_append, List.cons_append] at t2 ⊢
  simp [wpk_skip, wpk_seq, k_cond, wpk_block, wpk_exit, wpk_ret, wpk_loop, k_ops, k_draw0, t_nil, t_cons, KT_eq, KD_eq, wpo_nil, k_cons, k_step, mt_some, mtk_some, KO_eq, KP_eq, K_normal, K_ret, K_exit, KB_normal, KB_ret, KB_exit, KL_normal, KL_ret, KL_exit, k_ret, k_normal, stepE, isCall, calleeE, opE, wantE, odE, odS, odL, odSL, fget, fput, initE, keepF, List.map_cons, List.map_nil, binE, intOp, strOp, shOp, unE, eqpE, eqnE, neqB, ressE, resE, packL, packE, flat1, fcells, fillE, setL, cellsOf_bind, cellsO_own, cellsO_ro, lenE_sl, lenE_nils, lenE_sl0, bound, rep, minE, maxE, List.getElem?_cons_zero, List.getElem?_cons_succ, get_lt, set_lt, get_len, get_len_add, set_len, set_len_add, List.append_assoc, List.cons_append, List.nil_append, -getElem?_pos, w3]
  refine WPc.go (add_ok t2 xs Y B (P + L)) ?_
  rintro _ h3 ⟨c3, rfl, v3, t3⟩
  have g3 := c3.base t2 g2
  rw [addR_new (arg_ok (by omega) (by omega) (by omega)) (by simp [sameR, hxx]; omega) (by simp)] at t3 ⊢
  simp only [List.nil_append, List.cons_append] at t3 ⊢
  simp [wpk_skip, wpk_seq, k_cond, wpk_block, wpk_exit, wpk_ret, wpk_loop, k_ops, k_draw0, t_nil, t_cons, KT_eq, KD_eq, wpo_nil, k_cons, k_step, mt_some, mtk_some, KO_eq, KP_eq, K_normal, K_ret, K_exit, KB_normal, KB_ret, KB_exit, KL_normal, KL_ret, KL_exit, k_ret, k_normal, stepE, isCall, calleeE, opE, wantE, odE, odS, odL, odSL, fget, fput, initE, keepF, List.map_cons, List.map_nil, binE, intOp, strOp, shOp, unE, eqpE, eqnE, neqB, ressE, resE, packL, packE, flat1, fcells, fillE, setL, cellsOf_bind, cellsO_own, cellsO_ro, lenE_sl, lenE_nils, lenE_sl0, bound, rep, minE, maxE, List.getElem?_cons_zero, List.getElem?_cons_succ, get_lt, set_lt, get_len, get_len_add, set_len, set_len_add, List.append_assoc, List.cons_append, List.nil_append, -getElem?_pos, ]
  refine WPc.go (add_ok t3 xs Y B P) ?_
  rintro _ h4 ⟨c4, rfl, v4, t4⟩
  have g4 := c4.base t3 g3
  rw [addR_same (arg_ok (by omega) (by omega) (by omega)) (by simp [sameR, hxx])] at t4 ⊢
  simp only [List.nil_append, List.cons_append] at t4
  have lk := later_rates (Y := Y) (A := A) (B := B) (P := P) (L := L) (by omega) (by omega)
  generalize hrows : ([⟨xs, Y, A, P⟩, ⟨xs, Y + 2, B, P⟩, ⟨xs, Y, B, P + L⟩] : List Ro) = rows at *
  obtain ⟨cs, hcs⟩ : ∃ cs : List Lk, cs = [⟨Y, P - 1, 0, false⟩, ⟨Y - 1, P, 0, false⟩, ⟨Y, P, A, true⟩, ⟨Y + 1, P, A, true⟩, ⟨Y + 2, P, B, true⟩, ⟨Y + 9, P + 90, B, true⟩, ⟨Y, P + L, B, true⟩, ⟨Y + 1, P + L - 1, A, true⟩, ⟨Y + 1, P + L, B, true⟩] := ⟨_, rfl⟩
  have hlen : cs.length = 9 := by rw [hcs]; rfl
  simp [wpk_skip, wpk_seq, k_cond, wpk_block, wpk_exit, wpk_ret, wpk_loop, k_ops, k_draw0, t_nil, t_cons, KT_eq, KD_eq, wpo_nil, k_cons, k_step, mt_some, mtk_some, KO_eq, KP_eq, K_normal, K_ret, K_exit, KB_normal, KB_ret, KB_exit, KL_normal, KL_ret, KL_exit, k_ret, k_normal, stepE, isCall, calleeE, opE, wantE, odE, odS, odL, odSL, fget, fput, initE, keepF, List.map_cons, List.map_nil, binE, intOp, strOp, shOp, unE, eqpE, eqnE, neqB, ressE, resE, packL, packE, flat1, fcells, fillE, setL, cellsOf_bind, cellsO_own, cellsO_ro, lenE_sl, lenE_nils, lenE_sl0, bound, rep, minE, maxE, List.getElem?_cons_zero, List.getElem?_cons_succ, get_lt, set_lt, get_len, get_len_add, set_len, set_len_add, List.append_assoc, List.cons_append, List.nil_append, -getElem?_pos, w2, w3, w4, w5, w6, w7, w8, w9, s10_6]
  have hobj : (h4 ++ [LO.own 70 (cs.flatMap encL)])[h4.length]? = some (.own 70 (cs.flatMap encL)) := get_len
  have rd : Rd (h4 ++ [LO.own 70 (cs.flatMap encL)]) 70 4 encL (.sl h4.length 0 0 9) cs := by
    have := Rd.lit encL_len hobj (p := 0)
    rw [hlen] at this; exact this
  rw [← hcs] at lk
  have hlit : [LO.own 70 [.int .i64 Y, .int .i64 (P - 1), .int .i64 0, .bool false, .int .i64 (Y - 1), .int .i64 P, .int .i64 0, .bool false, .int .i64 Y, .int .i64 P, .int .i64 A, .bool true, .int .i64 (Y + 1), .int .i64 P, .int .i64 A, .bool true, .int .i64 (Y + 2), .int .i64 P, .int .i64 B, .bool true, .int .i64 (Y + 9), .int .i64 (P + 90), .int .i64 B, .bool true, .int .i64 Y, .int .i64 (P + L), .int .i64 B, .bool true, .int .i64 (Y + 1), .int .i64 (P + L - 1), .int .i64 A, .bool true, .int .i64 (Y + 1), .int .i64 (P + L), .int .i64 B, .bool true]] = [LO.own 70 (cs.flatMap encL)] := by rw [hcs]; rfl
  rw [hlit]
  refine WPl.inv2 (fun n fr h' => Gr (h4 ++ [LO.own 70 (cs.flatMap encL)]) h' ∧ ∃ k : Nat, k ≤ 9 ∧ n = 9 - k ∧
    fr = [(0, some (.s (.int .i64 Y))), (3, some (.s (.int .i64 P))), (4, some (.s (.int .i64 L))), (11, some (.s (.ptr h0.length 0))), (114, some (.s (.sl h4.length 0 0 9))), (115, some (.s (.int .i64 9))), (116, some (.s (.int .i64 k)))]) ?_ _ _ _ ⟨Gr.refl _, 0, by omega, rfl, rfl⟩
  rintro I hI n fr h' ⟨gr, k, hk, rfl, rfl⟩
  refine ⟨by simp [keepF, fget], ?_⟩
  have t5 := (t4.gr (Gr.self h4 _)).gr gr
  by_cases hlt : k < 9
  · have hlt' : (k : Int) < 9 := by omega
    have hkc : k < cs.length := by omega
    obtain ⟨j1, p1, q1, ob1, vs1, e, d1, d2, d3, d4, -⟩ := (rd.gr gr).at encL_len hkc
    have e' := e
    simp only [SV.sl.injEq] at e'
    obtain ⟨rfl, rfl, rfl, -⟩ := e'
    have d5 := lt_of_some d1
    have lc := lk _ (List.getElem_mem hkc)
    have z3 : IntKind.i64.wrap ((k : Int) + 1) = ((k + 1 : Nat) : Int) := wrap_small (by omega) (by omega)
    simp only [encL, Nat.zero_add] at d3 d4
    generalize cs[k] = c at *
    simp [wpk_skip, wpk_seq, k_cond, wpk_block, wpk_exit, wpk_ret, wpk_loop, k_ops, k_draw0, t_nil, t_cons, KT_eq, KD_eq, wpo_nil, k_cons, k_step, mt_some, mtk_some, KO_eq, KP_eq, K_normal, K_ret, K_exit, KB_normal, KB_ret, KB_exit, KL_normal, KL_ret, KL_exit, k_ret, k_normal, stepE, isCall, calleeE, opE, wantE, odE, odS, odL, odSL, fget, fput, initE, keepF, List.map_cons, List.map_nil, binE, intOp, strOp, shOp, unE, eqpE, eqnE, neqB, ressE, resE, packL, packE, flat1, fcells, fillE, setL, cellsOf_bind, cellsO_own, cellsO_ro, lenE_sl, lenE_nils, lenE_sl0, bound, rep, minE, maxE, List.getElem?_cons_zero, List.getElem?_cons_succ, get_lt, set_lt, get_len, get_len_add, set_len, set_len_add, List.append_assoc, List.cons_append, List.nil_append, -getElem?_pos, l10_0_2, l10_0_1, l10_0, hlt', d1, d2, d3, d4, d5]
    refine WPc.go ((t5.gr (Gr.self h' _)).rate xs c.y c.p) ?_
    rintro _ h6 ⟨g6, rfl⟩
    rw [lc.1, lc.2]
    have d6 : h6[h'.length]? = some (.own 70 [.int .i64 c.y, .int .i64 c.p, .int .i64 c.r, .bool c.ok]) := g6.get get_len
    have n1 : (c.ok == c.ok) = true := by simp
    have n2 : (c.r != c.r) = false := by simp
    cases hok : c.ok <;>
    · rw [hok] at d6
      simp [wpk_skip, wpk_seq, k_cond, wpk_block, wpk_exit, wpk_ret, wpk_loop, k_ops, k_draw0, t_nil, t_cons, KT_eq, KD_eq, wpo_nil, k_cons, k_step, mt_some, mtk_some, KO_eq, KP_eq, K_normal, K_ret, K_exit, KB_normal, KB_ret, KB_exit, KL_normal, KL_ret, KL_exit, k_ret, k_normal, stepE, isCall, calleeE, opE, wantE, odE, odS, odL, odSL, fget, fput, initE, keepF, List.map_cons, List.map_nil, binE, intOp, strOp, shOp, unE, eqpE, eqnE, neqB, ressE, resE, packL, packE, flat1, fcells, fillE, setL, cellsOf_bind, cellsO_own, cellsO_ro, lenE_sl, lenE_nils, lenE_sl0, bound, rep, minE, maxE, List.getElem?_cons_zero, List.getElem?_cons_succ, get_lt, set_lt, get_len, get_len_add, set_len, set_len_add, List.append_assoc, List.cons_append, List.nil_append, -getElem?_pos, d6, n1, n2, z3]
      exact ⟨_, by omega, hI _ _ _ ⟨(gr.trans (Gr.self h' _)).trans g6, k + 1, by omega, rfl, rfl⟩⟩
  · obtain rfl : k = 9 := by omega
    simp [wpk_skip, wpk_seq, k_cond, wpk_block, wpk_exit, wpk_ret, wpk_loop, k_ops, k_draw0, t_nil, t_cons, KT_eq, KD_eq, wpo_nil, k_cons, k_step, mt_some, mtk_some, KO_eq, KP_eq, K_normal, K_ret, K_exit, KB_normal, KB_ret, KB_exit, KL_normal, KL_ret, KL_exit, k_ret, k_normal, stepE, isCall, calleeE, opE, wantE, odE, odS, odL, odSL, fget, fput, initE, keepF, List.map_cons, List.map_nil, binE, intOp, strOp, shOp, unE, eqpE, eqnE, neqB, ressE, resE, packL, packE, flat1, fcells, fillE, setL, cellsOf_bind, cellsO_own, cellsO_ro, lenE_sl, lenE_nils, lenE_sl0, bound, rep, minE, maxE, List.getElem?_cons_zero, List.getElem?_cons_succ, get_lt, set_lt, get_len, get_len_add, set_len, set_len_add, List.append_assoc, List.cons_append, List.nil_append, -getElem?_pos, l10_0_2, l10_0_1, l10_0, s10_7, s10_8, w3]
    refine WPc.go (t5.rate ⟨#[121]⟩ Y (P + L)) ?_
    rintro _ h6 ⟨g6, rfl⟩
    have e0 : (xs.toList == (⟨#[121]⟩ : ByteArray).toList) = false := by decide +kernel
    have hnone : bestF ⟨#[121]⟩ Y (P + L) rows = none := by
      rw [← hrows]
      simp only [bestF, List.foldl_cons, List.foldl_nil, stepB, e0, true_or, if_true]
    rw [hnone]
    simp [wpk_skip, wpk_seq, k_cond, wpk_block, wpk_exit, wpk_ret, wpk_loop, k_ops, k_draw0, t_nil, t_cons, KT_eq, KD_eq, wpo_nil, k_cons, k_step, mt_some, mtk_some, KO_eq, KP_eq, K_normal, K_ret, K_exit, KB_normal, KB_ret, KB_exit, KL_normal, KL_ret, KL_exit, k_ret, k_normal, stepE, isCall, calleeE, opE, wantE, odE, odS, odL, odSL, fget, fput, initE, keepF, List.map_cons, List.map_nil, binE, intOp, strOp, shOp, unE, eqpE, eqnE, neqB, ressE, resE, packL, packE, flat1, fcells, fillE, setL, cellsOf_bind, cellsO_own, cellsO_ro, lenE_sl, lenE_nils, lenE_sl0, bound, rep, minE, maxE, List.getElem?_cons_zero, List.getElem?_cons_succ, get_lt, set_lt, get_len, get_len_add, set_len, set_len_add, List.append_assoc, List.cons_append, List.nil_append, -getElem?_pos, ]
    refine WPc.go (wakes_ok _) ?_
    rintro _ h7 ⟨_, rfl⟩
    simp [wpk_skip, wpk_seq, k_cond, wpk_block, wpk_exit, wpk_ret, wpk_loop, k_ops, k_draw0, t_nil, t_cons, KT_eq, KD_eq, wpo_nil, k_cons, k_step, mt_some, mtk_some, KO_eq, KP_eq, K_normal, K_ret, K_exit, KB_normal, KB_ret, KB_exit, KL_normal, KL_ret, KL_exit, k_ret, k_normal, stepE, isCall, calleeE, opE, wantE, odE, odS, odL, odSL, fget, fput, initE, keepF, List.map_cons, List.map_nil, binE, intOp, strOp, shOp, unE, eqpE, eqnE, neqB, ressE, resE, packL, packE, flat1, fcells, fillE, setL, cellsOf_bind, cellsO_own, cellsO_ro, lenE_sl, lenE_nils, lenE_sl0, bound, rep, minE, maxE, List.getElem?_cons_zero, List.getElem?_cons_succ, get_lt, set_lt, get_len, get_len_add, set_len, set_len_add, List.append_assoc, List.cons_append, List.nil_append, -getElem?_pos, ]
    exact hΨ _ _ rfl
end Go.Proofs.Ytcimcccnhbbncaa.Ev.CE
