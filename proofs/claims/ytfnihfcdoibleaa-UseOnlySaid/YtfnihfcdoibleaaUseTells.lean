/- UseTells on the small machine. -/
import Derived.Test.YtfnihfcdoibleaaUseC
import Derived.Test.YtfnihfcdoibleaaEvRow
set_option linter.unusedSimpArgs false
set_option linter.unusedVariables false
namespace Go.Proofs.Ytfnihfcdoibleaa.Ev.CU
open Go

theorem wakes_ok (h : LH) : WPc C 21 [] h fun u h' => Gr h h' ∧ u = .s (.bool true) := by
  refine WPc.post fun Ψ hΨ => ?_
  refine WPc.intro (e := e21) rfl (by simp [e21]) ?_
  show WPk C b21 _ _ (KR [.tmp 0] _)
  simp [wpk_skip, wpk_seq, k_cond, wpk_block, wpk_exit, wpk_ret, wpk_loop, k_ops, k_draw0, t_nil, t_cons, KT_eq, KD_eq, wpo_nil, k_cons, k_step, mt_some, mtk_some, KO_eq, KP_eq, K_normal, K_ret, K_exit, KB_normal, KB_ret, KB_exit, KL_normal, KL_ret, KL_exit, k_ret, k_normal, stepE, isCall, calleeE, opE, wantE, odE, odS, odL, odSL, fget, fput, initE, keepF, List.map_cons, List.map_nil, binE, intOp, strOp, shOp, unE, eqpE, eqnE, neqB, ressE, resE, packL, packE, flat1, fcells, fillE, setL, cellsOf_bind, cellsO_own, cellsO_ro, lenE_sl, lenE_nils, lenE_sl0, bound, rep, minE, maxE, List.getElem?_cons_zero, List.getElem?_cons_succ, get_lt, set_lt, get_len, get_len_add, set_len, set_len_add, List.append_assoc, List.cons_append, List.nil_append, -getElem?_pos, b21, s21_2, s21_1]
  have g1 : Good [⟨1, 4, 100⟩] := ⟨by simp, by simp [lefts], by simp, by simp [is64]⟩
  have e1 : (h ++ [LO.own 37 [.int .i64 1, .int .i64 4, .int .i64 100]])[h.length]? = some (.own 37 ([(⟨1, 4, 100⟩ : Vi)].flatMap encV)) := get_len
  refine WPc.go (vec_ok (Rd.lit encV_len e1 (p := 0)) g1 3 (room := 60) (by unfold is64; omega)) ?_
  rintro _ h1 ⟨gr1, w, rfl, ow⟩
  have r1 := ow.rd encI_len (z := 1)
  have e2 : (h1 ++ [LO.own 3 [.int .i64 60]])[h1.length]? = some (.own 3 ([(60 : Int)].flatMap encI)) := get_len
  have hs := same_ok (r1.gr (Gr.self h1 [LO.own 3 [.int .i64 60]])) (Rd.lit encI_len e2 (p := 0)) (by simp [vecF])
  have e60 : min (100 : Int) (max 0 60) = 60 := by decide
  simp [vecF, e60] at hs
  have rm : roomF 100 500000 = 50 := by decide
  simp [wpk_skip, wpk_seq, k_cond, wpk_block, wpk_exit, wpk_ret, wpk_loop, k_ops, k_draw0, t_nil, t_cons, KT_eq, KD_eq, wpo_nil, k_cons, k_step, mt_some, mtk_some, KO_eq, KP_eq, K_normal, K_ret, K_exit, KB_normal, KB_ret, KB_exit, KL_normal, KL_ret, KL_exit, k_ret, k_normal, stepE, isCall, calleeE, opE, wantE, odE, odS, odL, odSL, fget, fput, initE, keepF, List.map_cons, List.map_nil, binE, intOp, strOp, shOp, unE, eqpE, eqnE, neqB, ressE, resE, packL, packE, flat1, fcells, fillE, setL, cellsOf_bind, cellsO_own, cellsO_ro, lenE_sl, lenE_nils, lenE_sl0, bound, rep, minE, maxE, List.getElem?_cons_zero, List.getElem?_cons_succ, get_lt, set_lt, get_len, get_len_add, set_len, set_len_add, List.append_assoc, List.cons_append, List.nil_append, -getElem?_pos, hs, room_ok, rm]
  refine WPc.go (vec_ok (l := []) (v := .nils) (.inl ⟨rfl, .inl rfl⟩) ⟨by simp, by simp [lefts], by simp, by simp⟩ 1 (room := 5) (by unfold is64; omega)) ?_
  rintro _ h2 ⟨gr2, w2, rfl, ow2⟩
  have hl2 := ow2.len
  simp [vecF] at hl2
  simp [wpk_skip, wpk_seq, k_cond, wpk_block, wpk_exit, wpk_ret, wpk_loop, k_ops, k_draw0, t_nil, t_cons, KT_eq, KD_eq, wpo_nil, k_cons, k_step, mt_some, mtk_some, KO_eq, KP_eq, K_normal, K_ret, K_exit, KB_normal, KB_ret, KB_exit, KL_normal, KL_ret, KL_exit, k_ret, k_normal, stepE, isCall, calleeE, opE, wantE, odE, odS, odL, odSL, fget, fput, initE, keepF, List.map_cons, List.map_nil, binE, intOp, strOp, shOp, unE, eqpE, eqnE, neqB, ressE, resE, packL, packE, flat1, fcells, fillE, setL, cellsOf_bind, cellsO_own, cellsO_ro, lenE_sl, lenE_nils, lenE_sl0, bound, rep, minE, maxE, List.getElem?_cons_zero, List.getElem?_cons_succ, get_lt, set_lt, get_len, get_len_add, set_len, set_len_add, List.append_assoc, List.cons_append, List.nil_append, -getElem?_pos, hl2]
  refine hΨ _ _ ⟨?_, rfl⟩
  exact (((Gr.self h _).trans gr1).trans (Gr.self h1 _)).trans gr2

theorem vec_bounds {year : Int} : ∀ {l : List Vi} {left : Int}, (∀ v ∈ l, 1 ≤ v.l) → 0 ≤ left → (∀ x ∈ vecF year left l, 0 ≤ x) ∧ (vecF year left l).sum ≤ (lefts l).sum
  | [], left, _, _ => by simp [vecF, lefts]
  | v :: r, left, h, h0 => by
    have hv := h v List.mem_cons_self
    have hx : 0 ≤ (if v.e ≥ year then min v.l left else 0) ∧ (if v.e ≥ year then min v.l left else 0) ≤ v.l ∧ (if v.e ≥ year then min v.l left else 0) ≤ left := by split <;> omega
    simp only [vecF]
    generalize (if v.e ≥ year then min v.l left else 0) = x at hx
    obtain ⟨a, b⟩ := vec_bounds (year := year) (left := left - x) (fun w hw => h w (List.mem_cons_of_mem _ hw)) (by omega)
    refine ⟨fun y hy => ?_, ?_⟩
    · rcases List.mem_cons.1 hy with rfl | hy
      · exact hx.1
      · exact a y hy
    · unfold lefts at b ⊢
      simp; omega
theorem vec_take {year left : Int} {l : List Vi} (g : Good l) (h0 : 0 ≤ left) (k : Nat) : 0 ≤ ((vecF year left l).take k).sum ∧ ((vecF year left l).take k).sum ≤ 100000000000 := by
  obtain ⟨a, b⟩ := vec_bounds (year := year) g.pos h0
  have c := sum_take_le a k
  have d := g.sum
  omega

set_option maxHeartbeats 4000000 in
theorem useTells_ok {h0 : LH} {av : SV} {zs : List Int} (ha : IntA h0 3 av zs) (year room income cap how : Int) (hz : ∀ z ∈ zs, (Lit.int .i64 z).wf = true) (hy : is64 year) (hr : is64 room) (hin : is64 income) (hca : is64 cap) (hhow : is64 how) :
    ∃ h', callX C 7 [.s av, .s (.int .i64 year), .s (.int .i64 room), .s (.int .i64 income), .s (.int .i64 cap), .s (.int .i64 how)] h0 = some (.s (.bool true), h') ∧ True := by
  suffices w : WPc C 7 [.s av, .s (.int .i64 year), .s (.int .i64 room), .s (.int .i64 income), .s (.int .i64 cap), .s (.int .i64 how)] h0 fun u _ => u = .s (.bool true) by
    obtain ⟨v, h', e, rfl⟩ := w
    exact ⟨h', e, trivial⟩
  refine WPc.post fun Ψ hΨ => ?_
  refine WPc.intro (e := e7) rfl (by simp [e7]) ?_
  show WPk C b7 _ _ (KR [.tmp 12] _)
  have y1 := fun h => within_ok year 12 (by omega) h
  generalize year % 12 = y at y1
  simp [wpk_skip, wpk_seq, k_cond, wpk_block, wpk_exit, wpk_ret, wpk_loop, k_ops, k_draw0, t_nil, t_cons, KT_eq, KD_eq, wpo_nil, k_cons, k_step, mt_some, mtk_some, KO_eq, KP_eq, K_normal, K_ret, K_exit, KB_normal, KB_ret, KB_exit, KL_normal, KL_ret, KL_exit, k_ret, k_normal, stepE, isCall, calleeE, opE, wantE, odE, odS, odL, odSL, fget, fput, initE, keepF, List.map_cons, List.map_nil, binE, intOp, strOp, shOp, unE, eqpE, eqnE, neqB, ressE, resE, packL, packE, flat1, fcells, fillE, setL, cellsOf_bind, cellsO_own, cellsO_ro, lenE_sl, lenE_nils, lenE_sl0, bound, rep, minE, maxE, List.getElem?_cons_zero, List.getElem?_cons_succ, get_lt, set_lt, get_len, get_len_add, set_len, set_len_add, List.append_assoc, List.cons_append, List.nil_append, -getElem?_pos, b7, s7_1, s7_2]
  refine WPc.go (losses_ok ha.rd fun z hz' => lit_64 (hz z hz')) ?_
  rintro _ h1 ⟨g1, i, w, rows, rfl, hi, rd, g⟩
  simp [wpk_skip, wpk_seq, k_cond, wpk_block, wpk_exit, wpk_ret, wpk_loop, k_ops, k_draw0, t_nil, t_cons, KT_eq, KD_eq, wpo_nil, k_cons, k_step, mt_some, mtk_some, KO_eq, KP_eq, K_normal, K_ret, K_exit, KB_normal, KB_ret, KB_exit, KL_normal, KL_ret, KL_exit, k_ret, k_normal, stepE, isCall, calleeE, opE, wantE, odE, odS, odL, odSL, fget, fput, initE, keepF, List.map_cons, List.map_nil, binE, intOp, strOp, shOp, unE, eqpE, eqnE, neqB, ressE, resE, packL, packE, flat1, fcells, fillE, setL, cellsOf_bind, cellsO_own, cellsO_ro, lenE_sl, lenE_nils, lenE_sl0, bound, rep, minE, maxE, List.getElem?_cons_zero, List.getElem?_cons_succ, get_lt, set_lt, get_len, get_len_add, set_len, set_len_add, List.append_assoc, List.cons_append, List.nil_append, -getElem?_pos, y1]
  have main : ∀ room' income' cap' h2 (x : Fr), Gr h1 h2 → is64 room' → WPk C s7_5 ((1, some (.s (.int .i64 y))) :: (2, some (.s (.int .i64 room'))) :: (3, some (.s (.int .i64 income'))) :: (4, some (.s (.int .i64 cap'))) :: (13, some (.s (.ptr i 0))) :: x) h2 (KR [.tmp 12] Ψ) := by
    intro room' income' cap' h2 x g2 hr'
    have hi2 := g2.get hi
    have hi2' := lt_of_some hi2
    have rd2 := rd.gr g2
    simp [wpk_skip, wpk_seq, k_cond, wpk_block, wpk_exit, wpk_ret, wpk_loop, k_ops, k_draw0, t_nil, t_cons, KT_eq, KD_eq, wpo_nil, k_cons, k_step, mt_some, mtk_some, KO_eq, KP_eq, K_normal, K_ret, K_exit, KB_normal, KB_ret, KB_exit, KL_normal, KL_ret, KL_exit, k_ret, k_normal, stepE, isCall, calleeE, opE, wantE, odE, odS, odL, odSL, fget, fput, initE, keepF, List.map_cons, List.map_nil, binE, intOp, strOp, shOp, unE, eqpE, eqnE, neqB, ressE, resE, packL, packE, flat1, fcells, fillE, setL, cellsOf_bind, cellsO_own, cellsO_ro, lenE_sl, lenE_nils, lenE_sl0, bound, rep, minE, maxE, List.getElem?_cons_zero, List.getElem?_cons_succ, get_lt, set_lt, get_len, get_len_add, set_len, set_len_add, List.append_assoc, List.cons_append, List.nil_append, -getElem?_pos, s7_5, s7_6]
    refine k_draw ?_
    simp [wpk_skip, wpk_seq, k_cond, wpk_block, wpk_exit, wpk_ret, wpk_loop, k_ops, k_draw0, t_nil, t_cons, KT_eq, KD_eq, wpo_nil, k_cons, k_step, mt_some, mtk_some, KO_eq, KP_eq, K_normal, K_ret, K_exit, KB_normal, KB_ret, KB_exit, KL_normal, KL_ret, KL_exit, k_ret, k_normal, stepE, isCall, calleeE, opE, wantE, odE, odS, odL, odSL, fget, fput, initE, keepF, List.map_cons, List.map_nil, binE, intOp, strOp, shOp, unE, eqpE, eqnE, neqB, ressE, resE, packL, packE, flat1, fcells, fillE, setL, cellsOf_bind, cellsO_own, cellsO_ro, lenE_sl, lenE_nils, lenE_sl0, bound, rep, minE, maxE, List.getElem?_cons_zero, List.getElem?_cons_succ, get_lt, set_lt, get_len, get_len_add, set_len, set_len_add, List.append_assoc, List.cons_append, List.nil_append, slotsG, slotsE, odT, odsT, optT, partsT, okPairs, okPair, -getElem?_pos, hi2]
    refine WPc.go (vec_ok rd2 g y hr') ?_
    rintro _ h3 ⟨g3, u, rfl, ow⟩
    have hi3 := g3.get hi2
    simp [wpk_skip, wpk_seq, k_cond, wpk_block, wpk_exit, wpk_ret, wpk_loop, k_ops, k_draw0, t_nil, t_cons, KT_eq, KD_eq, wpo_nil, k_cons, k_step, mt_some, mtk_some, KO_eq, KP_eq, K_normal, K_ret, K_exit, KB_normal, KB_ret, KB_exit, KL_normal, KL_ret, KL_exit, k_ret, k_normal, stepE, isCall, calleeE, opE, wantE, odE, odS, odL, odSL, fget, fput, initE, keepF, List.map_cons, List.map_nil, binE, intOp, strOp, shOp, unE, eqpE, eqnE, neqB, ressE, resE, packL, packE, flat1, fcells, fillE, setL, cellsOf_bind, cellsO_own, cellsO_ro, lenE_sl, lenE_nils, lenE_sl0, bound, rep, minE, maxE, List.getElem?_cons_zero, List.getElem?_cons_succ, get_lt, set_lt, get_len, get_len_add, set_len, set_len_add, List.append_assoc, List.cons_append, List.nil_append, slotsG, slotsE, odT, odsT, optT, partsT, okPairs, okPair, -getElem?_pos, hi2, hi3]
    refine WPc.go (rvec_ok (rd2.gr g3) g y hr') ?_
    rintro _ h4 ⟨g4, u', rfl, ow'⟩
    simp [wpk_skip, wpk_seq, k_cond, wpk_block, wpk_exit, wpk_ret, wpk_loop, k_ops, k_draw0, t_nil, t_cons, KT_eq, KD_eq, wpo_nil, k_cons, k_step, mt_some, mtk_some, KO_eq, KP_eq, K_normal, K_ret, K_exit, KB_normal, KB_ret, KB_exit, KL_normal, KL_ret, KL_exit, k_ret, k_normal, stepE, isCall, calleeE, opE, wantE, odE, odS, odL, odSL, fget, fput, initE, keepF, List.map_cons, List.map_nil, binE, intOp, strOp, shOp, unE, eqpE, eqnE, neqB, ressE, resE, packL, packE, flat1, fcells, fillE, setL, cellsOf_bind, cellsO_own, cellsO_ro, lenE_sl, lenE_nils, lenE_sl0, bound, rep, minE, maxE, List.getElem?_cons_zero, List.getElem?_cons_succ, get_lt, set_lt, get_len, get_len_add, set_len, set_len_add, List.append_assoc, List.cons_append, List.nil_append, slotsG, slotsE, odT, odsT, optT, partsT, okPairs, okPair, -getElem?_pos, hi2, hi3, s7_7]
    have hvl := vecF_len y rows (max 0 room')
    have gl := g.len
    have vt := fun k => vec_take (year := y) g (show 0 ≤ max 0 room' by omega) k
    generalize vecF y (max 0 room') rows = V at ow ow' hvl vt
    have ru := (ow.rd encI_len (z := 1)).gr g4
    have ru' := ow'.rd encI_len (z := 1)
    simp [wpk_skip, wpk_seq, k_cond, wpk_block, wpk_exit, wpk_ret, wpk_loop, k_ops, k_draw0, t_nil, t_cons, KT_eq, KD_eq, wpo_nil, k_cons, k_step, mt_some, mtk_some, KO_eq, KP_eq, K_normal, K_ret, K_exit, KB_normal, KB_ret, KB_exit, KL_normal, KL_ret, KL_exit, k_ret, k_normal, stepE, isCall, calleeE, opE, wantE, odE, odS, odL, odSL, fget, fput, initE, keepF, List.map_cons, List.map_nil, binE, intOp, strOp, shOp, unE, eqpE, eqnE, neqB, ressE, resE, packL, packE, flat1, fcells, fillE, setL, cellsOf_bind, cellsO_own, cellsO_ro, lenE_sl, lenE_nils, lenE_sl0, bound, rep, minE, maxE, List.getElem?_cons_zero, List.getElem?_cons_succ, get_lt, set_lt, get_len, get_len_add, set_len, set_len_add, List.append_assoc, List.cons_append, List.nil_append, -getElem?_pos, ow'.len]
    refine WPl.inv2 (fun m fr h' => h' = h4 ∧ ∃ k, k ≤ V.length ∧ m = V.length - k ∧
      fr = [(3, some (.s (.int .i64 income'))), (4, some (.s (.int .i64 cap'))), (14, some (.s u)), (15, some (.s u')), (16, some (.s (.int .i64 (V.take k).sum))), (49, some (.s u')), (50, some (.s (.int .i64 V.length))), (51, some (.s (.int .i64 k)))]) ?_ _ _ _ ⟨rfl, 0, Nat.zero_le _, rfl, by simp⟩
    rintro I hI m fr h' ⟨rfl, k, hk, rfl, rfl⟩
    refine ⟨by simp [keepF, fget], ?_⟩
    by_cases hlt : k < V.length
    · obtain ⟨j, p, q, ob, vs, rfl, q2, q3, q4⟩ := ru'.int hlt
      have hs := sum_take_succ V hlt
      have vk := vt (k + 1)
      have w2 : IntKind.i64.wrap ((V.take k).sum + V[k]) = (V.take (k + 1)).sum := by rw [hs] at vk ⊢; exact wrap_small (by omega) (by omega)
      have w3 : IntKind.i64.wrap ((k : Int) + 1) = ((k + 1 : Nat) : Int) := wrap_small (by omega) (by omega)
      simp [wpk_skip, wpk_seq, k_cond, wpk_block, wpk_exit, wpk_ret, wpk_loop, k_ops, k_draw0, t_nil, t_cons, KT_eq, KD_eq, wpo_nil, k_cons, k_step, mt_some, mtk_some, KO_eq, KP_eq, K_normal, K_ret, K_exit, KB_normal, KB_ret, KB_exit, KL_normal, KL_ret, KL_exit, k_ret, k_normal, stepE, isCall, calleeE, opE, wantE, odE, odS, odL, odSL, fget, fput, initE, keepF, List.map_cons, List.map_nil, binE, intOp, strOp, shOp, unE, eqpE, eqnE, neqB, ressE, resE, packL, packE, flat1, fcells, fillE, setL, cellsOf_bind, cellsO_own, cellsO_ro, lenE_sl, lenE_nils, lenE_sl0, bound, rep, minE, maxE, List.getElem?_cons_zero, List.getElem?_cons_succ, get_lt, set_lt, get_len, get_len_add, set_len, set_len_add, List.append_assoc, List.cons_append, List.nil_append, -getElem?_pos, l7_0_2, l7_0_1, l7_0, hlt, q2, q3, q4, w2, w3]
      exact ⟨_, by omega, hI _ _ _ ⟨rfl, k + 1, hlt, rfl, rfl⟩⟩
    · obtain rfl : k = V.length := by omega
      have hs := same_ok ru ru' (by omega)
      have hu := used_ok ru (by omega) (fun k _ => by have := vt k; omega)
      rw [decide_eq_true rfl] at hs
      simp [wpk_skip, wpk_seq, k_cond, wpk_block, wpk_exit, wpk_ret, wpk_loop, k_ops, k_draw0, t_nil, t_cons, KT_eq, KD_eq, wpo_nil, k_cons, k_step, mt_some, mtk_some, KO_eq, KP_eq, K_normal, K_ret, K_exit, KB_normal, KB_ret, KB_exit, KL_normal, KL_ret, KL_exit, k_ret, k_normal, stepE, isCall, calleeE, opE, wantE, odE, odS, odL, odSL, fget, fput, initE, keepF, List.map_cons, List.map_nil, binE, intOp, strOp, shOp, unE, eqpE, eqnE, neqB, ressE, resE, packL, packE, flat1, fcells, fillE, setL, cellsOf_bind, cellsO_own, cellsO_ro, lenE_sl, lenE_nils, lenE_sl0, bound, rep, minE, maxE, List.getElem?_cons_zero, List.getElem?_cons_succ, get_lt, set_lt, get_len, get_len_add, set_len, set_len_add, List.append_assoc, List.cons_append, List.nil_append, -getElem?_pos, l7_0_2, l7_0_1, l7_0, hlt, s7_8, hs, hu, room_ok, rroom_ok]
      refine WPc.go (wakes_ok _) ?_
      rintro _ h5 ⟨_, rfl⟩
      simp [wpk_skip, wpk_seq, k_cond, wpk_block, wpk_exit, wpk_ret, wpk_loop, k_ops, k_draw0, t_nil, t_cons, KT_eq, KD_eq, wpo_nil, k_cons, k_step, mt_some, mtk_some, KO_eq, KP_eq, K_normal, K_ret, K_exit, KB_normal, KB_ret, KB_exit, KL_normal, KL_ret, KL_exit, k_ret, k_normal, stepE, isCall, calleeE, opE, wantE, odE, odS, odL, odSL, fget, fput, initE, keepF, List.map_cons, List.map_nil, binE, intOp, strOp, shOp, unE, eqpE, eqnE, neqB, ressE, resE, packL, packE, flat1, fcells, fillE, setL, cellsOf_bind, cellsO_own, cellsO_ro, lenE_sl, lenE_nils, lenE_sl0, bound, rep, minE, maxE, List.getElem?_cons_zero, List.getElem?_cons_succ, get_lt, set_lt, get_len, get_len_add, set_len, set_len_add, List.append_assoc, List.cons_append, List.nil_append, -getElem?_pos, ]
      exact hΨ _ _ rfl
  by_cases c5 : how.tmod 5 = 4
  · by_cases c3 : how.tmod 3 = 2
    · simp [wpk_skip, wpk_seq, k_cond, wpk_block, wpk_exit, wpk_ret, wpk_loop, k_ops, k_draw0, t_nil, t_cons, KT_eq, KD_eq, wpo_nil, k_cons, k_step, mt_some, mtk_some, KO_eq, KP_eq, K_normal, K_ret, K_exit, KB_normal, KB_ret, KB_exit, KL_normal, KL_ret, KL_exit, k_ret, k_normal, stepE, isCall, calleeE, opE, wantE, odE, odS, odL, odSL, fget, fput, initE, keepF, List.map_cons, List.map_nil, binE, intOp, strOp, shOp, unE, eqpE, eqnE, neqB, ressE, resE, packL, packE, flat1, fcells, fillE, setL, cellsOf_bind, cellsO_own, cellsO_ro, lenE_sl, lenE_nils, lenE_sl0, bound, rep, minE, maxE, List.getElem?_cons_zero, List.getElem?_cons_succ, get_lt, set_lt, get_len, get_len_add, set_len, set_len_add, List.append_assoc, List.cons_append, List.nil_append, -getElem?_pos, s7_3, s7_4, c5, c3]
      exact main _ _ _ _ _ (Gr.refl _) hr
    · simp [wpk_skip, wpk_seq, k_cond, wpk_block, wpk_exit, wpk_ret, wpk_loop, k_ops, k_draw0, t_nil, t_cons, KT_eq, KD_eq, wpo_nil, k_cons, k_step, mt_some, mtk_some, KO_eq, KP_eq, K_normal, K_ret, K_exit, KB_normal, KB_ret, KB_exit, KL_normal, KL_ret, KL_exit, k_ret, k_normal, stepE, isCall, calleeE, opE, wantE, odE, odS, odL, odSL, fget, fput, initE, keepF, List.map_cons, List.map_nil, binE, intOp, strOp, shOp, unE, eqpE, eqnE, neqB, ressE, resE, packL, packE, flat1, fcells, fillE, setL, cellsOf_bind, cellsO_own, cellsO_ro, lenE_sl, lenE_nils, lenE_sl0, bound, rep, minE, maxE, List.getElem?_cons_zero, List.getElem?_cons_succ, get_lt, set_lt, get_len, get_len_add, set_len, set_len_add, List.append_assoc, List.cons_append, List.nil_append, -getElem?_pos, s7_3, s7_4, c5, c3, amount_ok hin, rate_ok]
      exact main _ _ _ _ _ (Gr.self _ _) hr
  · by_cases c3 : how.tmod 3 = 2
    · simp [wpk_skip, wpk_seq, k_cond, wpk_block, wpk_exit, wpk_ret, wpk_loop, k_ops, k_draw0, t_nil, t_cons, KT_eq, KD_eq, wpo_nil, k_cons, k_step, mt_some, mtk_some, KO_eq, KP_eq, K_normal, K_ret, K_exit, KB_normal, KB_ret, KB_exit, KL_normal, KL_ret, KL_exit, k_ret, k_normal, stepE, isCall, calleeE, opE, wantE, odE, odS, odL, odSL, fget, fput, initE, keepF, List.map_cons, List.map_nil, binE, intOp, strOp, shOp, unE, eqpE, eqnE, neqB, ressE, resE, packL, packE, flat1, fcells, fillE, setL, cellsOf_bind, cellsO_own, cellsO_ro, lenE_sl, lenE_nils, lenE_sl0, bound, rep, minE, maxE, List.getElem?_cons_zero, List.getElem?_cons_succ, get_lt, set_lt, get_len, get_len_add, set_len, set_len_add, List.append_assoc, List.cons_append, List.nil_append, -getElem?_pos, s7_3, s7_4, c5, c3, amount_ok hr]
      exact main _ _ _ _ _ (Gr.refl _) (amount_64 hr)
    · simp [wpk_skip, wpk_seq, k_cond, wpk_block, wpk_exit, wpk_ret, wpk_loop, k_ops, k_draw0, t_nil, t_cons, KT_eq, KD_eq, wpo_nil, k_cons, k_step, mt_some, mtk_some, KO_eq, KP_eq, K_normal, K_ret, K_exit, KB_normal, KB_ret, KB_exit, KL_normal, KL_ret, KL_exit, k_ret, k_normal, stepE, isCall, calleeE, opE, wantE, odE, odS, odL, odSL, fget, fput, initE, keepF, List.map_cons, List.map_nil, binE, intOp, strOp, shOp, unE, eqpE, eqnE, neqB, ressE, resE, packL, packE, flat1, fcells, fillE, setL, cellsOf_bind, cellsO_own, cellsO_ro, lenE_sl, lenE_nils, lenE_sl0, bound, rep, minE, maxE, List.getElem?_cons_zero, List.getElem?_cons_succ, get_lt, set_lt, get_len, get_len_add, set_len, set_len_add, List.append_assoc, List.cons_append, List.nil_append, -getElem?_pos, s7_3, s7_4, c5, c3, amount_ok hr, amount_ok hin, rate_ok]
      exact main _ _ _ _ _ (Gr.self _ _) (amount_64 hr)
end Go.Proofs.Ytfnihfcdoibleaa.Ev.CU
