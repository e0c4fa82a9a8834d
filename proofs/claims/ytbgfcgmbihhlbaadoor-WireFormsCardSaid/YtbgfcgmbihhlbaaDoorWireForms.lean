/- WireForms on the small machine. -/
import Derived.Test.YtbgfcgmbihhlbaaDoorWrI
set_option linter.unusedSimpArgs false
set_option linter.unusedVariables false
namespace Go.Proofs.YtbgfcgmbihhlbaaDoor.Ev.CW
open Go
open CK (Cm encC fieldsL fieldsB okC cmOf_enc)

theorem app_B {hb h : LH} {v : SV} {l : List Int} (gr : Gr hb h) (ow : Ow hb.length h 5 encB v l) (L : List Int) (hL : L ≠ []) (hlen : l.length + L.length ≤ 1000000) :
    ∃ x h2, appE h 5 1 1 v L.length (L.flatMap encB) = some (.s x, h2) ∧ Gr hb h2 ∧ Ow hb.length h2 5 encB x (l ++ L) := by
  have hA := ow.app (z := 1) encB_len (n := L.length) (y := 1) (by simpa using hL) (by omega) (L.flatMap encB) []
  rw [List.append_nil] at hA
  exact ⟨_, _, hA, (kill_gr gr ow).app _, Ow.next (v := v) gr.le rfl⟩

theorem two24 (c d : Cm) : setL (setL [SV.int .i64 0, .str ⟨#[]⟩, .str ⟨#[]⟩, .str ⟨#[]⟩, .int .i64 0, .int .i64 0, .int .i64 0, .int .i64 0, .int .i64 0, .int .i64 0, .int .i64 0, .int .i64 0, .int .i64 0, .str ⟨#[]⟩, .str ⟨#[]⟩, .str ⟨#[]⟩, .int .i64 0, .int .i64 0, .int .i64 0, .int .i64 0, .int .i64 0, .int .i64 0, .int .i64 0, .int .i64 0] 0 (encC c)) 12 (encC d) = encC c ++ encC d := by
  simp [setL, encC]

theorem two48 (c d : Cm) : setL (setL (setL (setL [SV.int .i64 0, .str ⟨#[]⟩, .str ⟨#[]⟩, .str ⟨#[]⟩, .int .i64 0, .int .i64 0, .int .i64 0, .int .i64 0, .int .i64 0, .int .i64 0, .int .i64 0, .int .i64 0, SV.int .i64 0, .str ⟨#[]⟩, .str ⟨#[]⟩, .str ⟨#[]⟩, .int .i64 0, .int .i64 0, .int .i64 0, .int .i64 0, .int .i64 0, .int .i64 0, .int .i64 0, .int .i64 0, SV.int .i64 0, .str ⟨#[]⟩, .str ⟨#[]⟩, .str ⟨#[]⟩, .int .i64 0, .int .i64 0, .int .i64 0, .int .i64 0, .int .i64 0, .int .i64 0, .int .i64 0, .int .i64 0, SV.int .i64 0, .str ⟨#[]⟩, .str ⟨#[]⟩, .str ⟨#[]⟩, .int .i64 0, .int .i64 0, .int .i64 0, .int .i64 0, .int .i64 0, .int .i64 0, .int .i64 0, .int .i64 0] 0 (encC c)) 12 (encC d)) 24 (encC c)) 36 (encC d) = [c, d, c, d].flatMap encC := by
  simp [setL, encC]

set_option maxRecDepth 20000 in
set_option maxHeartbeats 400000 in
theorem wireForms_ok {h0 : LH} (y r p n : Int) (hy : is64 y) (hr : is64 r) (hp : is64 p) (hn : is64 n) : ∃ h', callX C 3 [.s (.int .i64 y), .s (.int .i64 r), .s (.int .i64 p), .s (.int .i64 n)] h0 = some (.s (.bool true), h') ∧ True := by
  suffices w : WPc C 3 [.s (.int .i64 y), .s (.int .i64 r), .s (.int .i64 p), .s (.int .i64 n)] h0 fun u _ => u = .s (.bool true) by
    obtain ⟨v, h', e, rfl⟩ := w
    exact ⟨h', e, trivial⟩
  refine WPc.post fun Ψ hΨ => ?_
  refine WPc.intro (e := e3) rfl (by simp [e3]) ?_
  show WPk C b3 _ _ (KR [.tmp 8] _)
  obtain ⟨c, hc⟩ : ∃ c, c = cF y r p := ⟨_, rfl⟩
  obtain ⟨d, hd⟩ : ∃ d, d = dF n := ⟨_, rfl⟩
  have ec : [SV.int .i64 1, .str ⟨#[]⟩, .str ⟨#[]⟩, .str ⟨#[117, 107]⟩, .int .i64 0, .int .i64 0, .int .i64 y, .int .i64 0, .int .i64 p, .int .i64 0, .int .i64 r, .int .i64 0] = encC c := by rw [hc]; rfl
  have ed : [SV.int .i64 10, .str ⟨#[97]⟩, .str ⟨#[98, 99, 100]⟩, .str ⟨#[]⟩, .int .i64 0, .int .i64 0, .int .i64 0, .int .i64 0, .int .i64 0, .int .i64 n, .int .i64 0, .int .i64 0] = encC d := by rw [hd]; rfl
  have lc : (encC c).length = 12 := rfl
  have ld : (encC d).length = 12 := rfl
  have tc : (encC c).take 12 = encC c := rfl
  have td : (encC d).take 12 = encC d := rfl
  simp [wpk_skip, wpk_seq, k_cond, wpk_block, wpk_exit, wpk_ret, wpk_goto, wpk_label, wpk_loop, k_ops, k_draw0, t_nil, t_cons, KT_eq, KD_eq, wpo_nil, k_cons, k_step, mt_some, mtk_some, KO_eq, KP_eq, K_normal, K_ret, K_exit, KB_normal, KB_ret, KB_exit, KL_normal, KL_ret, KL_exit, K_goto, KB_goto, KL_goto, KS_goto, KS_ret, KS_normal, KS_exit, k_ret, k_normal, stepE, isCall, calleeE, opE, wantE, odE, odS, odL, odSL, fget, fput, initE, keepF, List.map_cons, List.map_nil, binE, intOp, strOp, shOp, unE, eqpE, eqnE, neqB, ressE, resE, packL, packE, flat1, fcells, fillE, setL, cellsOf_bind, cellsO_own, cellsO_ro, lenE_sl, lenE_nils, lenE_sl0, bound, rep, minE, maxE, Option.getD_some, Option.getD_none, isKey, nlS, List.getElem?_cons_zero, List.getElem?_cons_succ, get_lt, set_lt, get_len, get_len_add, set_len, set_len_add, List.append_assoc, List.cons_append, List.nil_append, -getElem?_pos, b3, s3_11, s3_10, s3_9, s3_8, s3_7, s3_6, s3_5, s3_4, s3_3, s3_2, s3_1, ec, ed, lc, ld, store12]
  obtain ⟨B, hB⟩ : ∃ B, B = h0 ++ [LO.own 23 (encC c), .own 23 (encC d)] := ⟨_, rfl⟩
  have o29 : Ow B.length (B ++ [.own 5 [.int .u8 1, .int .u8 2, .int .u8 117, .int .u8 107]]) 5 encB (.sl B.length 0 0 4) [1, 2, 117, 107] := .inr ⟨B.length, Nat.le_refl _, rfl, get_len⟩
  have hBl : B.length = h0.length + 2 := by rw [hB]; simp
  have hBs : ∀ q : LH, B ++ q = h0 ++ (LO.own 23 (encC c) :: LO.own 23 (encC d) :: q) := fun q => by rw [hB]; simp
  refine WPc.go (number8_ok y _) ?_
  rintro _ h1 ⟨g1, w1, rfl, ow1⟩
  rw [show h0 ++ [LO.own 23 (encC c), .own 23 (encC d), .own 5 [.int .u8 1, .int .u8 2, .int .u8 117, .int .u8 107]] = B ++ [.own 5 [.int .u8 1, .int .u8 2, .int .u8 117, .int .u8 107]] from (hBs _).symm] at g1 ow1
  rw [← hBl]
  have r1 := ow1.rd encB_len (z := 1)
  obtain ⟨x1, k1, a1, G1, W1⟩ := app_B ((Gr.self B _).trans g1) (o29.gr g1) (num8 y) (by simp [num8]) (by simp [num8])
  simp [wpk_skip, wpk_seq, k_cond, wpk_block, wpk_exit, wpk_ret, wpk_goto, wpk_label, wpk_loop, k_ops, k_draw0, t_nil, t_cons, KT_eq, KD_eq, wpo_nil, k_cons, k_step, mt_some, mtk_some, KO_eq, KP_eq, K_normal, K_ret, K_exit, KB_normal, KB_ret, KB_exit, KL_normal, KL_ret, KL_exit, K_goto, KB_goto, KL_goto, KS_goto, KS_ret, KS_normal, KS_exit, k_ret, k_normal, stepE, isCall, calleeE, opE, wantE, odE, odS, odL, odSL, fget, fput, initE, keepF, List.map_cons, List.map_nil, binE, intOp, strOp, shOp, unE, eqpE, eqnE, neqB, ressE, resE, packL, packE, flat1, fcells, fillE, setL, cellsOf_bind, cellsO_own, cellsO_ro, lenE_sl, lenE_nils, lenE_sl0, bound, rep, minE, maxE, Option.getD_some, Option.getD_none, isKey, nlS, List.getElem?_cons_zero, List.getElem?_cons_succ, get_lt, set_lt, get_len, get_len_add, set_len, set_len_add, List.append_assoc, List.cons_append, List.nil_append, -getElem?_pos, r1.len, r1.elems, a1]
  refine WPc.go (number8_ok r _) ?_
  rintro _ h2 ⟨g2, w2, rfl, ow2⟩
  have r2 := ow2.rd encB_len (z := 1)
  obtain ⟨x2, k2, a2, G2, W2⟩ := app_B (G1.trans g2) (W1.gr g2) (num8 r) (by simp [num8]) (by simp [num8])
  simp [wpk_skip, wpk_seq, k_cond, wpk_block, wpk_exit, wpk_ret, wpk_goto, wpk_label, wpk_loop, k_ops, k_draw0, t_nil, t_cons, KT_eq, KD_eq, wpo_nil, k_cons, k_step, mt_some, mtk_some, KO_eq, KP_eq, K_normal, K_ret, K_exit, KB_normal, KB_ret, KB_exit, KL_normal, KL_ret, KL_exit, K_goto, KB_goto, KL_goto, KS_goto, KS_ret, KS_normal, KS_exit, k_ret, k_normal, stepE, isCall, calleeE, opE, wantE, odE, odS, odL, odSL, fget, fput, initE, keepF, List.map_cons, List.map_nil, binE, intOp, strOp, shOp, unE, eqpE, eqnE, neqB, ressE, resE, packL, packE, flat1, fcells, fillE, setL, cellsOf_bind, cellsO_own, cellsO_ro, lenE_sl, lenE_nils, lenE_sl0, bound, rep, minE, maxE, Option.getD_some, Option.getD_none, isKey, nlS, List.getElem?_cons_zero, List.getElem?_cons_succ, get_lt, set_lt, get_len, get_len_add, set_len, set_len_add, List.append_assoc, List.cons_append, List.nil_append, -getElem?_pos, r2.len, r2.elems, a2]
  refine WPc.go (number8_ok p _) ?_
  rintro _ h3 ⟨g3, w3, rfl, ow3⟩
  have r3 := ow3.rd encB_len (z := 1)
  obtain ⟨x3, k3, a3, G3, W3⟩ := app_B (G2.trans g3) (W2.gr g3) (num8 p) (by simp [num8]) (by simp [num8])
  have e3 : [1, 2, 117, 107] ++ num8 y ++ num8 r ++ num8 p = packC c := by rw [hc]; rfl
  rw [e3] at W3
  have l3 : (packC c).length = 28 := by rw [hc]; rfl
  have L3 := W3.len
  rw [l3] at L3
  simp [wpk_skip, wpk_seq, k_cond, wpk_block, wpk_exit, wpk_ret, wpk_goto, wpk_label, wpk_loop, k_ops, k_draw0, t_nil, t_cons, KT_eq, KD_eq, wpo_nil, k_cons, k_step, mt_some, mtk_some, KO_eq, KP_eq, K_normal, K_ret, K_exit, KB_normal, KB_ret, KB_exit, KL_normal, KL_ret, KL_exit, K_goto, KB_goto, KL_goto, KS_goto, KS_ret, KS_normal, KS_exit, k_ret, k_normal, stepE, isCall, calleeE, opE, wantE, odE, odS, odL, odSL, fget, fput, initE, keepF, List.map_cons, List.map_nil, binE, intOp, strOp, shOp, unE, eqpE, eqnE, neqB, ressE, resE, packL, packE, flat1, fcells, fillE, setL, cellsOf_bind, cellsO_own, cellsO_ro, lenE_sl, lenE_nils, lenE_sl0, bound, rep, minE, maxE, Option.getD_some, Option.getD_none, isKey, nlS, List.getElem?_cons_zero, List.getElem?_cons_succ, get_lt, set_lt, get_len, get_len_add, set_len, set_len_add, List.append_assoc, List.cons_append, List.nil_append, -getElem?_pos, r3.len, r3.elems, a3, L3]
  have rd7 : Rd (k3 ++ [LO.own 5 [.int .u8 10, .int .u8 1, .int .u8 97, .int .u8 3, .int .u8 98, .int .u8 99, .int .u8 100]]) 5 1 encB (.sl k3.length 0 0 [(10 : Int), 1, 97, 3, 98, 99, 100].length) [10, 1, 97, 3, 98, 99, 100] := Rd.lit (t := 5) (enc := encB) (l := [10, 1, 97, 3, 98, 99, 100]) encB_len get_len
  obtain ⟨x4, k4, a4, G4, W4⟩ := app_B (G3.app [LO.own 5 [.int .u8 10, .int .u8 1, .int .u8 97, .int .u8 3, .int .u8 98, .int .u8 99, .int .u8 100]]) (W3.gr (Gr.self _ _)) [10, 1, 97, 3, 98, 99, 100] (by simp) (by rw [l3]; simp)
  have a4' : appE (k3 ++ [LO.own 5 [.int .u8 10, .int .u8 1, .int .u8 97, .int .u8 3, .int .u8 98, .int .u8 99, .int .u8 100]]) 5 1 1 x3 7 [.int .u8 10, .int .u8 1, .int .u8 97, .int .u8 3, .int .u8 98, .int .u8 99, .int .u8 100] = some (.s x4, k4) := a4
  simp [wpk_skip, wpk_seq, k_cond, wpk_block, wpk_exit, wpk_ret, wpk_goto, wpk_label, wpk_loop, k_ops, k_draw0, t_nil, t_cons, KT_eq, KD_eq, wpo_nil, k_cons, k_step, mt_some, mtk_some, KO_eq, KP_eq, K_normal, K_ret, K_exit, KB_normal, KB_ret, KB_exit, KL_normal, KL_ret, KL_exit, K_goto, KB_goto, KL_goto, KS_goto, KS_ret, KS_normal, KS_exit, k_ret, k_normal, stepE, isCall, calleeE, opE, wantE, odE, odS, odL, odSL, fget, fput, initE, keepF, List.map_cons, List.map_nil, binE, intOp, strOp, shOp, unE, eqpE, eqnE, neqB, ressE, resE, packL, packE, flat1, fcells, fillE, setL, cellsOf_bind, cellsO_own, cellsO_ro, lenE_sl, lenE_nils, lenE_sl0, bound, rep, minE, maxE, Option.getD_some, Option.getD_none, isKey, nlS, List.getElem?_cons_zero, List.getElem?_cons_succ, get_lt, set_lt, get_len, get_len_add, set_len, set_len_add, List.append_assoc, List.cons_append, List.nil_append, -getElem?_pos, elems, a4']
  refine WPc.go (number8_ok n _) ?_
  rintro _ h5 ⟨g5, w5, rfl, ow5⟩
  have r5 := ow5.rd encB_len (z := 1)
  obtain ⟨x5, k5, a5, G5, W5⟩ := app_B (G4.trans g5) (W4.gr g5) (num8 n) (by simp [num8]) (by rw [List.length_append, l3]; simp [num8])
  have e5 : packC c ++ [10, 1, 97, 3, 98, 99, 100] ++ num8 n = wantF y r p n := by rw [hc]; rfl
  rw [e5] at W5
  have bc : B[h0.length]? = some (.own 23 (encC c)) := by rw [hB]; exact get_len
  have bd : B[h0.length + 1]? = some (.own 23 (encC d)) := by rw [hB]; exact get_len_add
  have kc := G5.get bc
  have kd := G5.get bd
  have e24 := two24 c d
  simp [wpk_skip, wpk_seq, k_cond, wpk_block, wpk_exit, wpk_ret, wpk_goto, wpk_label, wpk_loop, k_ops, k_draw0, t_nil, t_cons, KT_eq, KD_eq, wpo_nil, k_cons, k_step, mt_some, mtk_some, KO_eq, KP_eq, K_normal, K_ret, K_exit, KB_normal, KB_ret, KB_exit, KL_normal, KL_ret, KL_exit, K_goto, KB_goto, KL_goto, KS_goto, KS_ret, KS_normal, KS_exit, k_ret, k_normal, stepE, isCall, calleeE, opE, wantE, odE, odS, odL, odSL, fget, fput, initE, keepF, List.map_cons, List.map_nil, binE, intOp, strOp, shOp, unE, eqpE, eqnE, neqB, ressE, resE, packL, packE, flat1, fcells, fillE, setL, cellsOf_bind, cellsO_own, cellsO_ro, lenE_sl, lenE_nils, lenE_sl0, bound, rep, minE, maxE, Option.getD_some, Option.getD_none, isKey, nlS, List.getElem?_cons_zero, List.getElem?_cons_succ, get_lt, set_lt, get_len, get_len_add, set_len, set_len_add, List.append_assoc, List.cons_append, List.nil_append, -getElem?_pos, r5.len, r5.elems, a5, kc, kd, lc, ld, tc, td, e24, setL_length]
  have rl2 : Rd (k5 ++ [LO.own 23 (encC c ++ encC d)]) 23 12 encC (.sl k5.length 0 0 [c, d].length) [c, d] := Rd.lit (t := 23) (enc := encC) (l := [c, d]) encC_len get_len
  refine WPc.go (packs_ok rl2 (by simp)) ?_
  rintro _ h6 ⟨g6, hu⟩
  have okc : okC c = true := by rw [hc]; exact okC_c y r p
  have okd : okC d = true := by rw [hd]; exact okC_d n
  have hall : [c, d].all okC = true := by simp [okc, okd]
  rcases hu with ⟨_, w6, rfl, ow6⟩ | ⟨e, _⟩
  case inr => rw [hall] at e; cases e
  have e6 : [c, d].flatMap packC = wantF y r p n := by rw [hc, hd]; rfl
  rw [e6] at ow6
  have r6 := ow6.rd encB_len (z := 1)
  have W6 := (W5.gr (Gr.self k5 [LO.own 23 (encC c ++ encC d)])).gr g6
  have r6w := W6.rd encB_len (z := 1)
  have G6 := (G5.app [LO.own 23 (encC c ++ encC d)]).trans g6
  have hs := sameB_ok r6 r6w (by rw [lenW]; decide)
  simp at hs
  simp [wpk_skip, wpk_seq, k_cond, wpk_block, wpk_exit, wpk_ret, wpk_goto, wpk_label, wpk_loop, k_ops, k_draw0, t_nil, t_cons, KT_eq, KD_eq, wpo_nil, k_cons, k_step, mt_some, mtk_some, KO_eq, KP_eq, K_normal, K_ret, K_exit, KB_normal, KB_ret, KB_exit, KL_normal, KL_ret, KL_exit, K_goto, KB_goto, KL_goto, KS_goto, KS_ret, KS_normal, KS_exit, k_ret, k_normal, stepE, isCall, calleeE, opE, wantE, odE, odS, odL, odSL, fget, fput, initE, keepF, List.map_cons, List.map_nil, binE, intOp, strOp, shOp, unE, eqpE, eqnE, neqB, ressE, resE, packL, packE, flat1, fcells, fillE, setL, cellsOf_bind, cellsO_own, cellsO_ro, lenE_sl, lenE_nils, lenE_sl0, bound, rep, minE, maxE, Option.getD_some, Option.getD_none, isKey, nlS, List.getElem?_cons_zero, List.getElem?_cons_succ, get_lt, set_lt, get_len, get_len_add, set_len, set_len_add, List.append_assoc, List.cons_append, List.nil_append, -getElem?_pos, hs]
  -- the ten rows
  obtain ⟨j, j1, rfl, j3⟩ : ∃ j, B.length ≤ j ∧ x5 = .sl j 0 0 (wantF y r p n).length ∧ h6[j]? = some (.own 5 ((wantF y r p n).flatMap encB)) := by
    rcases W6 with ⟨e, _⟩ | w
    · exact absurd e (by unfold wantF packC; simp)
    · exact w
  have jl := lt_of_some j3
  have lw := lenW y r p n
  have rw6 : Rd h6 5 1 encB (.sl j 0 0 (wantF y r p n).length) (wantF y r p n) := r6w
  obtain ⟨u7, h7, c7, g7, w7, rfl, ow7⟩ := copyB_ok rw6 (by rw [lw]; decide)
  obtain ⟨x8, h8, a8, G8, W8⟩ := app_B (hb := h6) (g7.app [LO.own 5 [.int .u8 11]]) (ow7.gr (Gr.self _ _)) [11] (by simp) (by rw [lw]; decide)
  have a8' : appE (h7 ++ [LO.own 5 [.int .u8 11]]) 5 1 1 w7 1 [.int .u8 11] = some (.s x8, h8) := a8
  have j8 := G8.get j3
  have jl8 := lt_of_some j8
  have rd28 : Rd h8 5 1 encB (.sl j 0 0 28) ((wantF y r p n).take 28) := Rd.take (p' := 0) encB_len (rw6.gr G8) (by rw [lw]; decide)
  have l28 : ((wantF y r p n).take 28).length = 28 := by rw [List.length_take, lw]; rfl
  obtain ⟨u9, h9, c9, g9, w9, rfl, ow9⟩ := copyB_ok rd28 (by rw [l28]; decide)
  obtain ⟨x10, h10, a10, G10, W10⟩ := app_B (hb := h8) (g9.app [LO.own 5 [.int .u8 255, .int .u8 1]]) (ow9.gr (Gr.self _ _)) [255, 1] (by simp) (by rw [l28]; decide)
  have a10' : appE (h9 ++ [LO.own 5 [.int .u8 255, .int .u8 1]]) 5 1 1 w9 2 [.int .u8 255, .int .u8 1] = some (.s x10, h10) := a10
  have j10 := G10.get j8
  have jl10 := lt_of_some j10
  have j7 := g7.get j3
  have jl7 := lt_of_some j7
  have j9 := g9.get j8
  have jl9 := lt_of_some j9
  have w27 : IntKind.i64.wrap 27 = 27 := by decide
  have w33 : IntKind.i64.wrap 33 = 33 := by decide
  have w43 : IntKind.i64.wrap 43 = 43 := by decide
  rw [lw] at c7 ⊢
  refine k_draw ?_
  simp [wpk_skip, wpk_seq, k_cond, wpk_block, wpk_exit, wpk_ret, wpk_goto, wpk_label, wpk_loop, k_ops, k_draw0, t_nil, t_cons, KT_eq, KD_eq, wpo_nil, k_cons, k_step, mt_some, mtk_some, KO_eq, KP_eq, K_normal, K_ret, K_exit, KB_normal, KB_ret, KB_exit, KL_normal, KL_ret, KL_exit, K_goto, KB_goto, KL_goto, KS_goto, KS_ret, KS_normal, KS_exit, k_ret, k_normal, stepE, isCall, calleeE, opE, wantE, odE, odS, odL, odSL, fget, fput, initE, keepF, List.map_cons, List.map_nil, binE, intOp, strOp, shOp, unE, eqpE, eqnE, neqB, ressE, resE, packL, packE, flat1, fcells, fillE, setL, cellsOf_bind, cellsO_own, cellsO_ro, lenE_sl, lenE_nils, lenE_sl0, bound, rep, minE, maxE, Option.getD_some, Option.getD_none, isKey, nlS, List.getElem?_cons_zero, List.getElem?_cons_succ, get_lt, set_lt, get_len, get_len_add, set_len, set_len_add, List.append_assoc, List.cons_append, List.nil_append, slotsG, slotsE, odT, odsT, optT, partsT, okPairs, okPair, changesE, rdAft, rdO, frLt, nmV, nmVL, nmL, nmS, -getElem?_pos, c7, j3, jl, j7, jl7, j8, jl8, j9, jl9, j10, jl10, elems, ow7.len, ow9.len, a8', c9, a10', w27, w33, w43]
  obtain ⟨T, hT⟩ : ∃ T : LH, T = [LO.own 5 [SV.int IntKind.u8 0], LO.own 5 [SV.int IntKind.u8 13, SV.int IntKind.u8 1, SV.int IntKind.u8 97],
        LO.own 5 [SV.int IntKind.u8 11, SV.int IntKind.u8 1], LO.own 5 [SV.int IntKind.u8 11, SV.int IntKind.u8 0],
        LO.own 5 [SV.int IntKind.u8 11, SV.int IntKind.u8 1, SV.int IntKind.u8 65],
        LO.own 5
          [SV.int IntKind.u8 11, SV.int IntKind.u8 9, SV.int IntKind.u8 97, SV.int IntKind.u8 98, SV.int IntKind.u8 99,
            SV.int IntKind.u8 100, SV.int IntKind.u8 101, SV.int IntKind.u8 102, SV.int IntKind.u8 103,
            SV.int IntKind.u8 104, SV.int IntKind.u8 105],
        LO.own 30
          [SV.sl (List.length h10) 0 0 1, SV.int IntKind.i64 0, SV.sl (List.length h10 + 1) 0 0 3, SV.int IntKind.i64 0,
            SV.sl (List.length h10 + 2) 0 0 2, SV.int IntKind.i64 0, SV.sl (List.length h10 + 3) 0 0 2,
            SV.int IntKind.i64 0, SV.sl (List.length h10 + 4) 0 0 3, SV.int IntKind.i64 0,
            SV.sl (List.length h10 + 5) 0 0 11, SV.int IntKind.i64 0, x8, SV.int IntKind.i64 43, x10,
            SV.int IntKind.i64 28, SV.sl j 0 0 27, SV.int IntKind.i64 0, SV.sl j 0 0 33, SV.int IntKind.i64 28]] := ⟨_, rfl⟩
  rw [← hT]
  have G0 : Gr h10 (h10 ++ T) := Gr.self _ _
  have bw : isB (wantF y r p n) := by
    intro x hx
    rw [show wantF y r p n = ([1, 2, 117, 107] ++ num8 y ++ num8 r ++ num8 p) ++ ([10, 1, 97, 3, 98, 99, 100] ++ num8 n) from rfl] at hx
    have n8 : ∀ z : Int, ∀ x ∈ num8 z, 0 ≤ x ∧ x < 256 := by
      intro z x hx
      unfold num8 at hx
      simp only [List.mem_cons, List.not_mem_nil, or_false] at hx
      rcases hx with rfl | rfl | rfl | rfl | rfl | rfl | rfl | rfl <;> omega
    simp only [List.mem_append] at hx
    rcases hx with (((hx | hx) | hx) | hx) | hx | hx
    · revert x; decide
    · exact n8 _ x hx
    · exact n8 _ x hx
    · exact n8 _ x hx
    · revert x; decide
    · exact n8 _ x hx
  obtain ⟨cs, hcs⟩ : ∃ cs : List SV, cs = [SV.sl (List.length h10) 0 0 1, SV.int IntKind.i64 0, SV.sl (List.length h10 + 1) 0 0 3, SV.int IntKind.i64 0,
            SV.sl (List.length h10 + 2) 0 0 2, SV.int IntKind.i64 0, SV.sl (List.length h10 + 3) 0 0 2,
            SV.int IntKind.i64 0, SV.sl (List.length h10 + 4) 0 0 3, SV.int IntKind.i64 0,
            SV.sl (List.length h10 + 5) 0 0 11, SV.int IntKind.i64 0, x8, SV.int IntKind.i64 43, x10,
            SV.int IntKind.i64 28, SV.sl j 0 0 27, SV.int IntKind.i64 0, SV.sl j 0 0 33, SV.int IntKind.i64 28] := ⟨_, rfl⟩
  have T6 : (h10 ++ T)[h10.length + 6]? = some (.own 30 cs) := by rw [hT, hcs]; exact get_len_add
  have lit : ∀ (q : Nat) (L : List Int), T[q]? = some (.own 5 (L.flatMap encB)) → Rd (h10 ++ T) 5 1 encB (.sl (h10.length + q) 0 0 L.length) L := fun q L hq => Rd.lit encB_len (by rw [get_len_add]; exact hq)
  have n0 : ∀ q p' o' n' (a b c : Nat), SV.sl q p' o' n' ≠ .sl0 a b c := fun q p' o' n' a b c e => by cases e
  have r8 : Rd (h10 ++ T) 5 1 encB x8 (wantF y r p n ++ [11]) := ((W8.rd encB_len (z := 1)).gr G10).gr G0
  have r10 : Rd (h10 ++ T) 5 1 encB x10 ((wantF y r p n).take 28 ++ [255, 1]) := (W10.rd encB_len (z := 1)).gr G0
  have s8 : ∀ a b c, x8 ≠ .sl0 a b c := by
    rcases W8 with ⟨_, e⟩ | ⟨_, _, e, _⟩ <;> (intro a b c q; rw [q] at e; cases e)
  have s10 : ∀ a b c, x10 ≠ .sl0 a b c := by
    rcases W10 with ⟨_, e⟩ | ⟨_, _, e, _⟩ <;> (intro a b c q; rw [q] at e; cases e)
  have rwT := ((rw6.gr G8).gr G10).gr G0
  have r27 : Rd (h10 ++ T) 5 1 encB (.sl j 0 0 27) ((wantF y r p n).take 27) := Rd.take (p' := 0) encB_len rwT (by rw [lw]; decide)
  have r33 : Rd (h10 ++ T) 5 1 encB (.sl j 0 0 33) ((wantF y r p n).take 33) := Rd.take (p' := 0) encB_len rwT (by rw [lw]; decide)
  have bt : ∀ m, isB ((wantF y r p n).take m) := fun m x hx => bw x (List.mem_of_mem_take hx)
  have ba : ∀ (L M : List Int), isB L → isB M → isB (L ++ M) := fun L M h1 h2 x hx => (List.mem_append.1 hx).elim (h1 x) (h2 x)
  have row : ∀ k, k < 10 → ∃ v a L, (cs.drop (k * 2)).take 2 = [v, .int .i64 ((a : Nat) : Int)] ∧ Rd (h10 ++ T) 5 1 encB v L ∧ (∀ j p o, v ≠ .sl0 j p o) ∧ isB L ∧ L.length < 1000000 ∧ unpackN L.length (L.length + 1) L [] = .inr a := by
    intro k hk
    have hk' : k = 0 ∨ k = 1 ∨ k = 2 ∨ k = 3 ∨ k = 4 ∨ k = 5 ∨ k = 6 ∨ k = 7 ∨ k = 8 ∨ k = 9 := by omega
    rw [hcs]
    rcases hk' with rfl | rfl | rfl | rfl | rfl | rfl | rfl | rfl | rfl | rfl
    · exact ⟨_, 0, [0], rfl, lit 0 _ (by rw [hT]; rfl), n0 _ _ _ _, by unfold isB; decide, by decide, un1⟩
    · exact ⟨_, 0, [13, 1, 97], rfl, lit 1 _ (by rw [hT]; rfl), n0 _ _ _ _, by unfold isB; decide, by decide, un2⟩
    · exact ⟨_, 0, [11, 1], rfl, lit 2 _ (by rw [hT]; rfl), n0 _ _ _ _, by unfold isB; decide, by decide, un3⟩
    · exact ⟨_, 0, [11, 0], rfl, lit 3 _ (by rw [hT]; rfl), n0 _ _ _ _, by unfold isB; decide, by decide, un4⟩
    · exact ⟨_, 0, [11, 1, 65], rfl, lit 4 _ (by rw [hT]; rfl), n0 _ _ _ _, by unfold isB; decide, by decide, un5⟩
    · exact ⟨_, 0, [11, 9, 97, 98, 99, 100, 101, 102, 103, 104, 105], rfl, lit 5 _ (by rw [hT]; rfl), n0 _ _ _ _, by unfold isB; decide, by decide, un6⟩
    · exact ⟨_, 43, _, rfl, r8, s8, ba _ _ bw (by unfold isB; decide), by rw [List.length_append, lw]; decide, un7 hy hr hp hn⟩
    · exact ⟨_, 28, _, rfl, r10, s10, ba _ _ (bt _) (by unfold isB; decide), by rw [List.length_append, l28]; decide, un8 hy hr hp⟩
    · exact ⟨_, 0, _, rfl, r27, n0 _ _ _ _, bt _, by rw [List.length_take, lw]; decide, un9 hy hr hp⟩
    · exact ⟨_, 28, _, rfl, r33, n0 _ _ _ _, bt _, by rw [List.length_take, lw]; decide, un10 hy hr hp⟩
  have lcs : cs.length = 20 := by rw [hcs]; rfl
  have GB : Gr B (h10 ++ T) := (((G6.trans G8).trans G10)).trans G0
  refine WPl.inv2 (fun m fr h' => Gr (h10 ++ T) h' ∧ ∃ k : Nat, k ≤ 10 ∧ m = 10 - k ∧ fr = [(9, some (.s (.ptr h0.length 0))), (10, some (.s (.ptr (h0.length + 1) 0))), (11, some (.s (.sl j 0 0 43))), (101, some (.s (.sl (h10.length + 6) 0 0 10))), (102, some (.s (.int .i64 10))), (103, some (.s (.int .i64 k)))]) ?_ _ _ _ ⟨Gr.refl _, 0, by omega, rfl, rfl⟩
  rintro I hI m fr h' ⟨gr, k, hk, rfl, rfl⟩
  refine ⟨by simp [keepF, fget], ?_⟩
  by_cases hlt : k < 10
  · have hlt' : (k : Int) < 10 := by omega
    obtain ⟨v, a, L, q1, q2, q3, q4, q5, q6⟩ := row k hlt
    have w3 : IntKind.i64.wrap ((k : Int) + 1) = ((k + 1 : Nat) : Int) := wrap_small (by omega) (by omega)
    have t6 := gr.get T6
    have hb20 : k * 2 + 2 ≤ 20 := by omega
    have hun := unpack_ok (q2.gr (gr.trans (Gr.self h' [LO.own 30 [v, .int .i64 a]]))) q3 q4 q5
    rw [q6] at hun
    simp [wpk_skip, wpk_seq, k_cond, wpk_block, wpk_exit, wpk_ret, wpk_goto, wpk_label, wpk_loop, k_ops, k_draw0, t_nil, t_cons, KT_eq, KD_eq, wpo_nil, k_cons, k_step, mt_some, mtk_some, KO_eq, KP_eq, K_normal, K_ret, K_exit, KB_normal, KB_ret, KB_exit, KL_normal, KL_ret, KL_exit, K_goto, KB_goto, KL_goto, KS_goto, KS_ret, KS_normal, KS_exit, k_ret, k_normal, stepE, isCall, calleeE, opE, wantE, odE, odS, odL, odSL, fget, fput, initE, keepF, List.map_cons, List.map_nil, binE, intOp, strOp, shOp, unE, eqpE, eqnE, neqB, ressE, resE, packL, packE, flat1, fcells, fillE, setL, cellsOf_bind, cellsO_own, cellsO_ro, lenE_sl, lenE_nils, lenE_sl0, bound, rep, minE, maxE, Option.getD_some, Option.getD_none, isKey, nlS, List.getElem?_cons_zero, List.getElem?_cons_succ, get_lt, set_lt, get_len, get_len_add, set_len, set_len_add, List.append_assoc, List.cons_append, List.nil_append, -getElem?_pos, l3_0_2, l3_0_1, l3_0, hlt', t6, lcs, hb20, q1]
    refine WPc.go hun ?_
    rintro _ h1 ⟨g1, rfl⟩
    have e1 : (h' ++ [LO.own 30 [v, SV.int .i64 (a : Int)]])[h'.length]? = some (.own 30 [v, .int .i64 a]) := get_len
    have e2 := g1.get e1
    simp [wpk_skip, wpk_seq, k_cond, wpk_block, wpk_exit, wpk_ret, wpk_goto, wpk_label, wpk_loop, k_ops, k_draw0, t_nil, t_cons, KT_eq, KD_eq, wpo_nil, k_cons, k_step, mt_some, mtk_some, KO_eq, KP_eq, K_normal, K_ret, K_exit, KB_normal, KB_ret, KB_exit, KL_normal, KL_ret, KL_exit, K_goto, KB_goto, KL_goto, KS_goto, KS_ret, KS_normal, KS_exit, k_ret, k_normal, stepE, isCall, calleeE, opE, wantE, odE, odS, odL, odSL, fget, fput, initE, keepF, List.map_cons, List.map_nil, binE, intOp, strOp, shOp, unE, eqpE, eqnE, neqB, ressE, resE, packL, packE, flat1, fcells, fillE, setL, cellsOf_bind, cellsO_own, cellsO_ro, lenE_sl, lenE_nils, lenE_sl0, bound, rep, minE, maxE, Option.getD_some, Option.getD_none, isKey, nlS, List.getElem?_cons_zero, List.getElem?_cons_succ, get_lt, set_lt, get_len, get_len_add, set_len, set_len_add, List.append_assoc, List.cons_append, List.nil_append, -getElem?_pos, e2, w3]
    exact ⟨10 - (k + 1), by omega, hI _ _ _ ⟨gr.trans ((Gr.self h' _).trans g1), k + 1, by omega, rfl, rfl⟩⟩
  · obtain rfl : k = 10 := by omega
    have rwE := rwT.gr gr
    rw [lw] at rwE
    simp [wpk_skip, wpk_seq, k_cond, wpk_block, wpk_exit, wpk_ret, wpk_goto, wpk_label, wpk_loop, k_ops, k_draw0, t_nil, t_cons, KT_eq, KD_eq, wpo_nil, k_cons, k_step, mt_some, mtk_some, KO_eq, KP_eq, K_normal, K_ret, K_exit, KB_normal, KB_ret, KB_exit, KL_normal, KL_ret, KL_exit, K_goto, KB_goto, KL_goto, KS_goto, KS_ret, KS_normal, KS_exit, k_ret, k_normal, stepE, isCall, calleeE, opE, wantE, odE, odS, odL, odSL, fget, fput, initE, keepF, List.map_cons, List.map_nil, binE, intOp, strOp, shOp, unE, eqpE, eqnE, neqB, ressE, resE, packL, packE, flat1, fcells, fillE, setL, cellsOf_bind, cellsO_own, cellsO_ro, lenE_sl, lenE_nils, lenE_sl0, bound, rep, minE, maxE, Option.getD_some, Option.getD_none, isKey, nlS, List.getElem?_cons_zero, List.getElem?_cons_succ, get_lt, set_lt, get_len, get_len_add, set_len, set_len_add, List.append_assoc, List.cons_append, List.nil_append, -getElem?_pos, l3_0_2, l3_0_1, l3_0]
    refine WPc.go (copyB_ok rwE (by rw [lw]; decide)) ?_
    rintro _ h1 ⟨g1, w1', rfl, ow1'⟩
    have rw1 := rwE.gr g1
    obtain ⟨x12, h12, a12, G12, W12⟩ := app_B (hb := h') g1 ow1' (wantF y r p n) (by rw [show wantF y r p n = packC (cF y r p) ++ packC (dF n) from rfl]; unfold packC; simp) (by rw [lw]; decide)
    rw [lw] at a12
    have sx : ∀ a b c, x12 ≠ .sl0 a b c := by
      rcases W12 with ⟨_, e⟩ | ⟨_, _, e, _⟩ <;> (intro a b c q; rw [q] at e; cases e)
    have hun := unpack_ok (W12.rd encB_len (z := 1)) sx (ba _ _ bw bw) (by rw [List.length_append, lw]; decide)
    have e11 : unpackN (wantF y r p n ++ wantF y r p n).length ((wantF y r p n ++ wantF y r p n).length + 1) (wantF y r p n ++ wantF y r p n) [] = .inl [c, d, c, d] := by rw [hc, hd]; exact un11 hy hr hp hn
    rw [e11] at hun
    have rl1 := rw1.len
    rw [lw] at rl1
    simp [wpk_skip, wpk_seq, k_cond, wpk_block, wpk_exit, wpk_ret, wpk_goto, wpk_label, wpk_loop, k_ops, k_draw0, t_nil, t_cons, KT_eq, KD_eq, wpo_nil, k_cons, k_step, mt_some, mtk_some, KO_eq, KP_eq, K_normal, K_ret, K_exit, KB_normal, KB_ret, KB_exit, KL_normal, KL_ret, KL_exit, K_goto, KB_goto, KL_goto, KS_goto, KS_ret, KS_normal, KS_exit, k_ret, k_normal, stepE, isCall, calleeE, opE, wantE, odE, odS, odL, odSL, fget, fput, initE, keepF, List.map_cons, List.map_nil, binE, intOp, strOp, shOp, unE, eqpE, eqnE, neqB, ressE, resE, packL, packE, flat1, fcells, fillE, setL, cellsOf_bind, cellsO_own, cellsO_ro, lenE_sl, lenE_nils, lenE_sl0, bound, rep, minE, maxE, Option.getD_some, Option.getD_none, isKey, nlS, List.getElem?_cons_zero, List.getElem?_cons_succ, get_lt, set_lt, get_len, get_len_add, set_len, set_len_add, List.append_assoc, List.cons_append, List.nil_append, -getElem?_pos, rl1, rw1.elems, a12]
    refine WPc.go hun ?_
    rintro _ h13 ⟨g13, w13, rfl, ow13⟩
    have gE : Gr B h13 := (GB.trans (gr.trans (G12))).trans g13
    have kc2 := gE.get bc
    have kd2 := gE.get bd
    obtain ⟨Z, hZ⟩ : ∃ Z, Z = [c, d, c, d].flatMap encC := ⟨_, rfl⟩
    have e48 := two48 c d
    rw [← hZ] at e48
    simp [wpk_skip, wpk_seq, k_cond, wpk_block, wpk_exit, wpk_ret, wpk_goto, wpk_label, wpk_loop, k_ops, k_draw0, t_nil, t_cons, KT_eq, KD_eq, wpo_nil, k_cons, k_step, mt_some, mtk_some, KO_eq, KP_eq, K_normal, K_ret, K_exit, KB_normal, KB_ret, KB_exit, KL_normal, KL_ret, KL_exit, K_goto, KB_goto, KL_goto, KS_goto, KS_ret, KS_normal, KS_exit, k_ret, k_normal, stepE, isCall, calleeE, opE, wantE, odE, odS, odL, odSL, fget, fput, initE, keepF, List.map_cons, List.map_nil, binE, intOp, strOp, shOp, unE, eqpE, eqnE, neqB, ressE, resE, packL, packE, flat1, fcells, fillE, setL, cellsOf_bind, cellsO_own, cellsO_ro, lenE_sl, lenE_nils, lenE_sl0, bound, rep, minE, maxE, Option.getD_some, Option.getD_none, isKey, nlS, List.getElem?_cons_zero, List.getElem?_cons_succ, get_lt, set_lt, get_len, get_len_add, set_len, set_len_add, List.append_assoc, List.cons_append, List.nil_append, -getElem?_pos, kc2, kd2, lc, ld, tc, td, e48, setL_length]
    have rl4 : Rd (h13 ++ [LO.own 23 Z]) 23 12 encC (.sl h13.length 0 0 [c, d, c, d].length) [c, d, c, d] := Rd.lit (t := 23) (enc := encC) (l := [c, d, c, d]) encC_len (by rw [← hZ]; exact get_len)
    have hsc := sameC_ok ((ow13.rd encC_len (z := 12)).gr (Gr.self h13 [LO.own 23 Z])) rl4 (by simp)
    have hsc' : callX C 13 [.s w13, .s (.sl h13.length 0 0 4)] (h13 ++ [LO.own 23 Z]) = some (.s (.bool true), h13 ++ [LO.own 23 Z]) := by
      have := hsc
      simp only [decide_true] at this
      exact this
    simp [wpk_skip, wpk_seq, k_cond, wpk_block, wpk_exit, wpk_ret, wpk_goto, wpk_label, wpk_loop, k_ops, k_draw0, t_nil, t_cons, KT_eq, KD_eq, wpo_nil, k_cons, k_step, mt_some, mtk_some, KO_eq, KP_eq, K_normal, K_ret, K_exit, KB_normal, KB_ret, KB_exit, KL_normal, KL_ret, KL_exit, K_goto, KB_goto, KL_goto, KS_goto, KS_ret, KS_normal, KS_exit, k_ret, k_normal, stepE, isCall, calleeE, opE, wantE, odE, odS, odL, odSL, fget, fput, initE, keepF, List.map_cons, List.map_nil, binE, intOp, strOp, shOp, unE, eqpE, eqnE, neqB, ressE, resE, packL, packE, flat1, fcells, fillE, setL, cellsOf_bind, cellsO_own, cellsO_ro, lenE_sl, lenE_nils, lenE_sl0, bound, rep, minE, maxE, Option.getD_some, Option.getD_none, isKey, nlS, List.getElem?_cons_zero, List.getElem?_cons_succ, get_lt, set_lt, get_len, get_len_add, set_len, set_len_add, List.append_assoc, List.cons_append, List.nil_append, -getElem?_pos, hsc']
    refine WPc.go (wakes_ok _) ?_
    rintro _ h14 ⟨_, rfl⟩
    simp [wpk_skip, wpk_seq, k_cond, wpk_block, wpk_exit, wpk_ret, wpk_goto, wpk_label, wpk_loop, k_ops, k_draw0, t_nil, t_cons, KT_eq, KD_eq, wpo_nil, k_cons, k_step, mt_some, mtk_some, KO_eq, KP_eq, K_normal, K_ret, K_exit, KB_normal, KB_ret, KB_exit, KL_normal, KL_ret, KL_exit, K_goto, KB_goto, KL_goto, KS_goto, KS_ret, KS_normal, KS_exit, k_ret, k_normal, stepE, isCall, calleeE, opE, wantE, odE, odS, odL, odSL, fget, fput, initE, keepF, List.map_cons, List.map_nil, binE, intOp, strOp, shOp, unE, eqpE, eqnE, neqB, ressE, resE, packL, packE, flat1, fcells, fillE, setL, cellsOf_bind, cellsO_own, cellsO_ro, lenE_sl, lenE_nils, lenE_sl0, bound, rep, minE, maxE, Option.getD_some, Option.getD_none, isKey, nlS, List.getElem?_cons_zero, List.getElem?_cons_succ, get_lt, set_lt, get_len, get_len_add, set_len, set_len_add, List.append_assoc, List.cons_append, List.nil_append, -getElem?_pos, ]
    exact hΨ _ _ rfl
end Go.Proofs.YtbgfcgmbihhlbaaDoor.Ev.CW
