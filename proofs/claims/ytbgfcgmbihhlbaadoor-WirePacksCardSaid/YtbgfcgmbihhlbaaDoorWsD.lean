/- Some commands, on the small machine. -/
import Derived.Test.YtbgfcgmbihhlbaaDoorWsC
set_option linter.unusedSimpArgs false
set_option linter.unusedVariables false
namespace Go.Proofs.YtbgfcgmbihhlbaaDoor.Ev.CW
open Go
open CK (Cm encC fieldsL fieldsB okC cmOf_enc)

theorem newGroup_ok (h : LH) : callX C 26 [] h = some (.s (.ptr (h.length + 3) 0), h ++ [.own 87 [.nils], .own 91 [.nils], .own 95 [.nils], .own 98 [.ptr h.length 0, .ptr (h.length + 1) 0, .nils, .ptr (h.length + 2) 0]]) := by
  apply callX_wp
  refine WPc.intro (e := e26) rfl (by simp [e26]) ?_
  show WPk C b26 _ _ (KR [.tmp 0] _)
  simp [wpk_skip, wpk_seq, k_cond, wpk_block, wpk_exit, wpk_ret, wpk_goto, wpk_label, wpk_loop, k_ops, k_draw0, t_nil, t_cons, KT_eq, KD_eq, wpo_nil, k_cons, k_step, mt_some, mtk_some, KO_eq, KP_eq, K_normal, K_ret, K_exit, KB_normal, KB_ret, KB_exit, KL_normal, KL_ret, KL_exit, K_goto, KB_goto, KL_goto, KS_goto, KS_ret, KS_normal, KS_exit, k_ret, k_normal, stepE, isCall, calleeE, opE, wantE, odE, odS, odL, odSL, fget, fput, initE, keepF, List.map_cons, List.map_nil, binE, intOp, strOp, shOp, unE, eqpE, eqnE, neqB, ressE, resE, packL, packE, flat1, fcells, fillE, setL, cellsOf_bind, cellsO_own, cellsO_ro, lenE_sl, lenE_nils, lenE_sl0, bound, rep, minE, maxE, Option.getD_some, Option.getD_none, isKey, nlS, List.getElem?_cons_zero, List.getElem?_cons_succ, get_lt, set_lt, get_len, get_len_add, set_len, set_len_add, List.append_assoc, List.cons_append, List.nil_append, -getElem?_pos, b26, s26_1]
theorem at_none {h : LH} {j : Nat} {a b c : SV} (hg : h[j]? = some (.own 98 [a, b, .nils, c])) : AtOK h (.ptr j 0) := by
  intro e h' g
  have hg' := g.get hg
  refine ⟨.nilp, ?_, .inl rfl⟩
  apply callX_wp
  refine WPc.intro (e := e45) rfl (by simp [e45]) ?_
  show WPk C b45 _ _ (KR [.tmp 4] _)
  simp [wpk_skip, wpk_seq, k_cond, wpk_block, wpk_exit, wpk_ret, wpk_goto, wpk_label, wpk_loop, k_ops, k_draw0, t_nil, t_cons, KT_eq, KD_eq, wpo_nil, k_cons, k_step, mt_some, mtk_some, KO_eq, KP_eq, K_normal, K_ret, K_exit, KB_normal, KB_ret, KB_exit, KL_normal, KL_ret, KL_exit, K_goto, KB_goto, KL_goto, KS_goto, KS_ret, KS_normal, KS_exit, k_ret, k_normal, stepE, isCall, calleeE, opE, wantE, odE, odS, odL, odSL, fget, fput, initE, keepF, List.map_cons, List.map_nil, binE, intOp, strOp, shOp, unE, eqpE, eqnE, neqB, ressE, resE, packL, packE, flat1, fcells, fillE, setL, cellsOf_bind, cellsO_own, cellsO_ro, lenE_sl, lenE_nils, lenE_sl0, bound, rep, minE, maxE, Option.getD_some, Option.getD_none, isKey, nlS, List.getElem?_cons_zero, List.getElem?_cons_succ, get_lt, set_lt, get_len, get_len_add, set_len, set_len_add, List.append_assoc, List.cons_append, List.nil_append, -getElem?_pos, b45, s45_2, s45_1, hg']
  exact ⟨_, _, _, loopX_done (by simp [keepF, fget]) (by simp [codeL, l45_0_2, l45_0_1, l45_0, opsE, wantE, stepE, isCall, calleeE, opE, odS, odE, odL, fget, fput, keepF, binE, intOp]; exact ⟨rfl, rfl, rfl⟩) (by simp), by simp [wpk_skip, wpk_seq, k_cond, wpk_block, wpk_exit, wpk_ret, wpk_goto, wpk_label, wpk_loop, k_ops, k_draw0, t_nil, t_cons, KT_eq, KD_eq, wpo_nil, k_cons, k_step, mt_some, mtk_some, KO_eq, KP_eq, K_normal, K_ret, K_exit, KB_normal, KB_ret, KB_exit, KL_normal, KL_ret, KL_exit, K_goto, KB_goto, KL_goto, KS_goto, KS_ret, KS_normal, KS_exit, k_ret, k_normal, stepE, isCall, calleeE, opE, wantE, odE, odS, odL, odSL, fget, fput, initE, keepF, List.map_cons, List.map_nil, binE, intOp, strOp, shOp, unE, eqpE, eqnE, neqB, ressE, resE, packL, packE, flat1, fcells, fillE, setL, cellsOf_bind, cellsO_own, cellsO_ro, lenE_sl, lenE_nils, lenE_sl0, bound, rep, minE, maxE, Option.getD_some, Option.getD_none, isKey, nlS, List.getElem?_cons_zero, List.getElem?_cons_succ, get_lt, set_lt, get_len, get_len_add, set_len, set_len_add, List.append_assoc, List.cons_append, List.nil_append, -getElem?_pos, ]⟩

set_option maxRecDepth 20000 in
set_option maxHeartbeats 8000000 in
theorem some_ok {h : LH} {v0 v1 v2 : SV} {cs : List Pc} {rs : List Cm} {hs : List Int} (r0 : Rd h 63 5 encP v0 cs) (r1 : Rd h 23 12 encC v1 rs) (r2 : Rd h 3 1 encI v2 hs) (hc : ∀ x ∈ cs, P64 x) (hr : ∀ x ∈ rs, W64 x) :
    WPc C 15 [.s v0, .s v1, .s v2] h fun u h' => Gr h h' ∧ ∃ w L, u = .s w ∧ Ow h.length h' 23 encC w L ∧ (∀ m ∈ L, W64 m) ∧ L.length ≤ 10 := by
  refine WPc.post fun Ψ hΨ => ?_
  refine WPc.intro (e := e15) rfl (by simp [e15]) ?_
  show WPk C b15 _ _ (KR [.tmp 6] _)
  have l0 := r0.len
  have l1 := r1.len
  have l2 := r2.len
  obtain ⟨A, hA⟩ : ∃ A : LH, A = [.own 87 [.nils], .own 91 [.nils], .own 95 [.nils], .own 98 [.ptr h.length 0, .ptr (h.length + 1) 0, .nils, .ptr (h.length + 2) 0]] := ⟨_, rfl⟩
  have hA3 : (h ++ A)[h.length + 3]? = some (.own 98 [.ptr h.length 0, .ptr (h.length + 1) 0, .nils, .ptr (h.length + 2) 0]) := by rw [hA]; exact get_len_add
  have gA : Gr h (h ++ A) := Gr.self _ _
  have ng := newGroup_ok h
  rw [← hA] at ng
  generalize hhA : h ++ A = H at *
  have hAT := at_none hA3
  have tk12 : ∀ m : Cm, (encC m).take 12 = encC m := fun _ => rfl
  have cl12 : ∀ m : Cm, (encC m).length = 12 := fun _ => rfl
  simp [wpk_skip, wpk_seq, k_cond, wpk_block, wpk_exit, wpk_ret, wpk_goto, wpk_label, wpk_loop, k_ops, k_draw0, t_nil, t_cons, KT_eq, KD_eq, wpo_nil, k_cons, k_step, mt_some, mtk_some, KO_eq, KP_eq, K_normal, K_ret, K_exit, KB_normal, KB_ret, KB_exit, KL_normal, KL_ret, KL_exit, K_goto, KB_goto, KL_goto, KS_goto, KS_ret, KS_normal, KS_exit, k_ret, k_normal, stepE, isCall, calleeE, opE, wantE, odE, odS, odL, odSL, fget, fput, initE, keepF, List.map_cons, List.map_nil, binE, intOp, strOp, shOp, unE, eqpE, eqnE, neqB, ressE, resE, packL, packE, flat1, fcells, fillE, setL, cellsOf_bind, cellsO_own, cellsO_ro, lenE_sl, lenE_nils, lenE_sl0, bound, rep, minE, maxE, Option.getD_some, Option.getD_none, isKey, nlS, List.getElem?_cons_zero, List.getElem?_cons_succ, get_lt, set_lt, get_len, get_len_add, set_len, set_len_add, List.append_assoc, List.cons_append, List.nil_append, -getElem?_pos, b15, s15_5, s15_4, s15_3, s15_2, s15_1, ng]
  refine WPl.post (fun x fr' h' => x = .exit 0 ∧ Gr H h' ∧ (∃ w L, Ow h.length h' 23 encC w L ∧ (∀ m ∈ L, W64 m) ∧ L.length ≤ 6 ∧ fr' = [(1, some (.s v1)), (2, some (.s v2)), (7, some (.s w))])) (fun Φ hΦ => ?_) ?_
  · refine WPl.inv2 (fun n fr h' => Gr H h' ∧ ∃ k w L, k ≤ cs.length ∧ k ≤ 6 ∧ n = 6 - k ∧ Ow H.length h' 23 encC w L ∧ (∀ m ∈ L, W64 m) ∧ L.length = k ∧ fr = [(0, some (.s v0)), (1, some (.s v1)), (2, some (.s v2)), (7, some (.s w)), (8, some (.s (.ptr (h.length + 3) 0))), (9, some (.s (.int .i64 k)))]) ?_ _ _ _
      ⟨Gr.refl _, 0, .nils, [], by omega, by omega, rfl, Ow.nil _ _, by simp, rfl, by simp⟩
    rintro I hI n fr h' ⟨gr, k, w, L, hk1, hk2, rfl, ow, hL, hlen, rfl⟩
    refine ⟨by simp [keepF, fget], ?_⟩
    have w3 : IntKind.i64.wrap ((k : Int) + 1) = ((k + 1 : Nat) : Int) := wrap_small (by omega) (by omega)
    have exit : Φ (.exit 0) [(1, some (.s v1)), (2, some (.s v2)), (7, some (.s w))] h' := hΦ _ _ _ ⟨rfl, gr, w, L, ow.base gA.le, hL, by omega, rfl⟩
    by_cases hlt : k < cs.length
    · by_cases h6 : k < 6
      · have h6' : (k : Int) < 6 := by omega
        obtain ⟨i, p, o, ob, vs, rfl, q2, q3, q4, q5, q6⟩ := ((r0.gr gA).gr gr).at encP_len hlt
        simp [wpk_skip, wpk_seq, k_cond, wpk_block, wpk_exit, wpk_ret, wpk_goto, wpk_label, wpk_loop, k_ops, k_draw0, t_nil, t_cons, KT_eq, KD_eq, wpo_nil, k_cons, k_step, mt_some, mtk_some, KO_eq, KP_eq, K_normal, K_ret, K_exit, KB_normal, KB_ret, KB_exit, KL_normal, KL_ret, KL_exit, K_goto, KB_goto, KL_goto, KS_goto, KS_ret, KS_normal, KS_exit, k_ret, k_normal, stepE, isCall, calleeE, opE, wantE, odE, odS, odL, odSL, fget, fput, initE, keepF, List.map_cons, List.map_nil, binE, intOp, strOp, shOp, unE, eqpE, eqnE, neqB, ressE, resE, packL, packE, flat1, fcells, fillE, setL, cellsOf_bind, cellsO_own, cellsO_ro, lenE_sl, lenE_nils, lenE_sl0, bound, rep, minE, maxE, Option.getD_some, Option.getD_none, isKey, nlS, List.getElem?_cons_zero, List.getElem?_cons_succ, get_lt, set_lt, get_len, get_len_add, set_len, set_len_add, List.append_assoc, List.cons_append, List.nil_append, -getElem?_pos, l15_0_1, l15_0, l0, hlt, h6', q2, q3, q4, q5]
        refine WPc.go (do_ok cs[k] (hc _ (List.getElem_mem hlt)) h' _ (fun e h'' g => hAT e h'' (gr.trans g))) ?_
        rintro _ h1 ⟨g1, m, rfl, hm⟩
        have ow1 := ow.gr g1
        have hAp := ow1.app1 (z := 12) (y := 120) encC_len (by omega) [.own 23 (encC m)] (encC m)
        obtain ⟨f1, f2⟩ := Ow.step (gr.trans g1) ow1 m [.own 23 (encC m)] (n := L.length + 1) (cs := encC m) (m := 1) rfl rfl rfl
        have st12 : setL [SV.int .i64 0, SV.str ⟨#[]⟩, SV.str ⟨#[]⟩, SV.str ⟨#[]⟩, SV.int .i64 0, SV.int .i64 0, SV.int .i64 0, SV.int .i64 0, SV.int .i64 0, SV.int .i64 0, SV.int .i64 0, SV.int .i64 0] 0 (encC m) = encC m := rfl
        simp [wpk_skip, wpk_seq, k_cond, wpk_block, wpk_exit, wpk_ret, wpk_goto, wpk_label, wpk_loop, k_ops, k_draw0, t_nil, t_cons, KT_eq, KD_eq, wpo_nil, k_cons, k_step, mt_some, mtk_some, KO_eq, KP_eq, K_normal, K_ret, K_exit, KB_normal, KB_ret, KB_exit, KL_normal, KL_ret, KL_exit, K_goto, KB_goto, KL_goto, KS_goto, KS_ret, KS_normal, KS_exit, k_ret, k_normal, stepE, isCall, calleeE, opE, wantE, odE, odS, odL, odSL, fget, fput, initE, keepF, List.map_cons, List.map_nil, binE, intOp, strOp, shOp, unE, eqpE, eqnE, neqB, ressE, resE, packL, packE, flat1, fcells, fillE, setL, cellsOf_bind, cellsO_own, cellsO_ro, lenE_sl, lenE_nils, lenE_sl0, bound, rep, minE, maxE, Option.getD_some, Option.getD_none, isKey, nlS, List.getElem?_cons_zero, List.getElem?_cons_succ, get_lt, set_lt, get_len, get_len_add, set_len, set_len_add, List.append_assoc, List.cons_append, List.nil_append, -getElem?_pos, cl12, tk12, st12, store12, elems, hAp, w3]
        exact ⟨6 - (k + 1), by omega, hI _ _ _ ⟨f1, k + 1, _, _, hlt, h6, rfl, f2, fun x hx => by
          rcases List.mem_append.1 hx with hx | hx
          · exact hL x hx
          · rw [List.mem_singleton.1 hx]; exact hm, by simp; omega, rfl⟩⟩
      · have h6' : ¬ (k : Int) < 6 := by omega
        simp [wpk_skip, wpk_seq, k_cond, wpk_block, wpk_exit, wpk_ret, wpk_goto, wpk_label, wpk_loop, k_ops, k_draw0, t_nil, t_cons, KT_eq, KD_eq, wpo_nil, k_cons, k_step, mt_some, mtk_some, KO_eq, KP_eq, K_normal, K_ret, K_exit, KB_normal, KB_ret, KB_exit, KL_normal, KL_ret, KL_exit, K_goto, KB_goto, KL_goto, KS_goto, KS_ret, KS_normal, KS_exit, k_ret, k_normal, stepE, isCall, calleeE, opE, wantE, odE, odS, odL, odSL, fget, fput, initE, keepF, List.map_cons, List.map_nil, binE, intOp, strOp, shOp, unE, eqpE, eqnE, neqB, ressE, resE, packL, packE, flat1, fcells, fillE, setL, cellsOf_bind, cellsO_own, cellsO_ro, lenE_sl, lenE_nils, lenE_sl0, bound, rep, minE, maxE, Option.getD_some, Option.getD_none, isKey, nlS, List.getElem?_cons_zero, List.getElem?_cons_succ, get_lt, set_lt, get_len, get_len_add, set_len, set_len_add, List.append_assoc, List.cons_append, List.nil_append, -getElem?_pos, l15_0_1, l15_0, l0, hlt, h6']
        exact exit
    · simp [wpk_skip, wpk_seq, k_cond, wpk_block, wpk_exit, wpk_ret, wpk_goto, wpk_label, wpk_loop, k_ops, k_draw0, t_nil, t_cons, KT_eq, KD_eq, wpo_nil, k_cons, k_step, mt_some, mtk_some, KO_eq, KP_eq, K_normal, K_ret, K_exit, KB_normal, KB_ret, KB_exit, KL_normal, KL_ret, KL_exit, K_goto, KB_goto, KL_goto, KS_goto, KS_ret, KS_normal, KS_exit, k_ret, k_normal, stepE, isCall, calleeE, opE, wantE, odE, odS, odL, odSL, fget, fput, initE, keepF, List.map_cons, List.map_nil, binE, intOp, strOp, shOp, unE, eqpE, eqnE, neqB, ressE, resE, packL, packE, flat1, fcells, fillE, setL, cellsOf_bind, cellsO_own, cellsO_ro, lenE_sl, lenE_nils, lenE_sl0, bound, rep, minE, maxE, Option.getD_some, Option.getD_none, isKey, nlS, List.getElem?_cons_zero, List.getElem?_cons_succ, get_lt, set_lt, get_len, get_len_add, set_len, set_len_add, List.append_assoc, List.cons_append, List.nil_append, -getElem?_pos, l15_0_1, l15_0, l0, hlt]
      exact exit
  · rintro x fr' h1 ⟨rfl, gr1, w, L, ow, hL, hL6, rfl⟩
    simp [wpk_skip, wpk_seq, k_cond, wpk_block, wpk_exit, wpk_ret, wpk_goto, wpk_label, wpk_loop, k_ops, k_draw0, t_nil, t_cons, KT_eq, KD_eq, wpo_nil, k_cons, k_step, mt_some, mtk_some, KO_eq, KP_eq, K_normal, K_ret, K_exit, KB_normal, KB_ret, KB_exit, KL_normal, KL_ret, KL_exit, K_goto, KB_goto, KL_goto, KS_goto, KS_ret, KS_normal, KS_exit, k_ret, k_normal, stepE, isCall, calleeE, opE, wantE, odE, odS, odL, odSL, fget, fput, initE, keepF, List.map_cons, List.map_nil, binE, intOp, strOp, shOp, unE, eqpE, eqnE, neqB, ressE, resE, packL, packE, flat1, fcells, fillE, setL, cellsOf_bind, cellsO_own, cellsO_ro, lenE_sl, lenE_nils, lenE_sl0, bound, rep, minE, maxE, Option.getD_some, Option.getD_none, isKey, nlS, List.getElem?_cons_zero, List.getElem?_cons_succ, get_lt, set_lt, get_len, get_len_add, set_len, set_len_add, List.append_assoc, List.cons_append, List.nil_append, -getElem?_pos, ]
    have gA1 : Gr h h1 := gA.trans gr1
    refine WPl.post (fun x fr' h' => x = .exit 2 ∧ Gr h h' ∧ (∃ w L, Ow h.length h' 23 encC w L ∧ (∀ m ∈ L, W64 m) ∧ L.length ≤ 10 ∧ fr' = [(7, some (.s w))])) (fun Φ hΦ => ?_) ?_
    · refine WPl.inv2 (fun n fr h' => Gr h h' ∧ ∃ k w L, k ≤ rs.length ∧ k ≤ 4 ∧ n = 4 - k ∧ Ow h.length h' 23 encC w L ∧ (∀ m ∈ L, W64 m) ∧ L.length ≤ 6 + k ∧ fr = [(1, some (.s v1)), (2, some (.s v2)), (7, some (.s w)), (10, some (.s (.int .i64 k)))]) ?_ _ _ _
        ⟨gA1, 0, w, L, by omega, by omega, rfl, ow, hL, hL6, by simp⟩
      rintro I hI n fr h' ⟨gr, k, w, L, hk1, hk2, rfl, ow, hL, hlen, rfl⟩
      refine ⟨by simp [keepF, fget], ?_⟩
      have w3 : IntKind.i64.wrap ((k : Int) + 1) = ((k + 1 : Nat) : Int) := wrap_small (by omega) (by omega)
      have exit : Φ (.exit 2) [(7, some (.s w))] h' := hΦ _ _ _ ⟨rfl, gr, w, L, ow, hL, by omega, rfl⟩
      by_cases hlt : k < rs.length
      · by_cases hlt2 : k < hs.length
        · by_cases h6 : k < 4
          · have h6' : (k : Int) < 4 := by omega
            obtain ⟨i, p, o, ob, vs, rfl, q2, q3, q4, q5, q6⟩ := (r1.gr gr).at encC_len hlt
            obtain ⟨i', p', o', ob', vs', rfl, u2, u3, u4⟩ := (r2.gr gr).int hlt2
            simp [wpk_skip, wpk_seq, k_cond, wpk_block, wpk_exit, wpk_ret, wpk_goto, wpk_label, wpk_loop, k_ops, k_draw0, t_nil, t_cons, KT_eq, KD_eq, wpo_nil, k_cons, k_step, mt_some, mtk_some, KO_eq, KP_eq, K_normal, K_ret, K_exit, KB_normal, KB_ret, KB_exit, KL_normal, KL_ret, KL_exit, K_goto, KB_goto, KL_goto, KS_goto, KS_ret, KS_normal, KS_exit, k_ret, k_normal, stepE, isCall, calleeE, opE, wantE, odE, odS, odL, odSL, fget, fput, initE, keepF, List.map_cons, List.map_nil, binE, intOp, strOp, shOp, unE, eqpE, eqnE, neqB, ressE, resE, packL, packE, flat1, fcells, fillE, setL, cellsOf_bind, cellsO_own, cellsO_ro, lenE_sl, lenE_nils, lenE_sl0, bound, rep, minE, maxE, Option.getD_some, Option.getD_none, isKey, nlS, List.getElem?_cons_zero, List.getElem?_cons_succ, get_lt, set_lt, get_len, get_len_add, set_len, set_len_add, List.append_assoc, List.cons_append, List.nil_append, -getElem?_pos, l15_1_1, l15_1, l1, l2, hlt, hlt2, h6', q2, q3, q4, q5, u2, u3, u4]
            refine WPc.go (raw_ok rs[k] (hr _ (List.getElem_mem hlt)) hs[k] h') ?_
            rintro _ h2 ⟨g1, m, rfl, hm⟩
            have ow1 := ow.gr g1
            have hAp := ow1.app1 (z := 12) (y := 120) encC_len (by omega) [.own 23 (encC m)] (encC m)
            obtain ⟨f1, f2⟩ := Ow.step (gr.trans g1) ow1 m [.own 23 (encC m)] (n := L.length + 1) (cs := encC m) (m := 1) rfl rfl rfl
            have st12 : setL [SV.int .i64 0, SV.str ⟨#[]⟩, SV.str ⟨#[]⟩, SV.str ⟨#[]⟩, SV.int .i64 0, SV.int .i64 0, SV.int .i64 0, SV.int .i64 0, SV.int .i64 0, SV.int .i64 0, SV.int .i64 0, SV.int .i64 0] 0 (encC m) = encC m := rfl
            simp [wpk_skip, wpk_seq, k_cond, wpk_block, wpk_exit, wpk_ret, wpk_goto, wpk_label, wpk_loop, k_ops, k_draw0, t_nil, t_cons, KT_eq, KD_eq, wpo_nil, k_cons, k_step, mt_some, mtk_some, KO_eq, KP_eq, K_normal, K_ret, K_exit, KB_normal, KB_ret, KB_exit, KL_normal, KL_ret, KL_exit, K_goto, KB_goto, KL_goto, KS_goto, KS_ret, KS_normal, KS_exit, k_ret, k_normal, stepE, isCall, calleeE, opE, wantE, odE, odS, odL, odSL, fget, fput, initE, keepF, List.map_cons, List.map_nil, binE, intOp, strOp, shOp, unE, eqpE, eqnE, neqB, ressE, resE, packL, packE, flat1, fcells, fillE, setL, cellsOf_bind, cellsO_own, cellsO_ro, lenE_sl, lenE_nils, lenE_sl0, bound, rep, minE, maxE, Option.getD_some, Option.getD_none, isKey, nlS, List.getElem?_cons_zero, List.getElem?_cons_succ, get_lt, set_lt, get_len, get_len_add, set_len, set_len_add, List.append_assoc, List.cons_append, List.nil_append, -getElem?_pos, cl12, tk12, st12, store12, elems, hAp, w3]
            exact ⟨4 - (k + 1), by omega, hI _ _ _ ⟨f1, k + 1, _, _, hlt, h6, rfl, f2, fun x hx => by
              rcases List.mem_append.1 hx with hx | hx
              · exact hL x hx
              · rw [List.mem_singleton.1 hx]; exact hm, by simp; omega, rfl⟩⟩
          · have h6' : ¬ (k : Int) < 4 := by omega
            simp [wpk_skip, wpk_seq, k_cond, wpk_block, wpk_exit, wpk_ret, wpk_goto, wpk_label, wpk_loop, k_ops, k_draw0, t_nil, t_cons, KT_eq, KD_eq, wpo_nil, k_cons, k_step, mt_some, mtk_some, KO_eq, KP_eq, K_normal, K_ret, K_exit, KB_normal, KB_ret, KB_exit, KL_normal, KL_ret, KL_exit, K_goto, KB_goto, KL_goto, KS_goto, KS_ret, KS_normal, KS_exit, k_ret, k_normal, stepE, isCall, calleeE, opE, wantE, odE, odS, odL, odSL, fget, fput, initE, keepF, List.map_cons, List.map_nil, binE, intOp, strOp, shOp, unE, eqpE, eqnE, neqB, ressE, resE, packL, packE, flat1, fcells, fillE, setL, cellsOf_bind, cellsO_own, cellsO_ro, lenE_sl, lenE_nils, lenE_sl0, bound, rep, minE, maxE, Option.getD_some, Option.getD_none, isKey, nlS, List.getElem?_cons_zero, List.getElem?_cons_succ, get_lt, set_lt, get_len, get_len_add, set_len, set_len_add, List.append_assoc, List.cons_append, List.nil_append, -getElem?_pos, l15_1_1, l15_1, l1, l2, hlt, hlt2, h6']
            exact exit
        · simp [wpk_skip, wpk_seq, k_cond, wpk_block, wpk_exit, wpk_ret, wpk_goto, wpk_label, wpk_loop, k_ops, k_draw0, t_nil, t_cons, KT_eq, KD_eq, wpo_nil, k_cons, k_step, mt_some, mtk_some, KO_eq, KP_eq, K_normal, K_ret, K_exit, KB_normal, KB_ret, KB_exit, KL_normal, KL_ret, KL_exit, K_goto, KB_goto, KL_goto, KS_goto, KS_ret, KS_normal, KS_exit, k_ret, k_normal, stepE, isCall, calleeE, opE, wantE, odE, odS, odL, odSL, fget, fput, initE, keepF, List.map_cons, List.map_nil, binE, intOp, strOp, shOp, unE, eqpE, eqnE, neqB, ressE, resE, packL, packE, flat1, fcells, fillE, setL, cellsOf_bind, cellsO_own, cellsO_ro, lenE_sl, lenE_nils, lenE_sl0, bound, rep, minE, maxE, Option.getD_some, Option.getD_none, isKey, nlS, List.getElem?_cons_zero, List.getElem?_cons_succ, get_lt, set_lt, get_len, get_len_add, set_len, set_len_add, List.append_assoc, List.cons_append, List.nil_append, -getElem?_pos, l15_1_1, l15_1, l1, l2, hlt, hlt2]
          exact exit
      · simp [wpk_skip, wpk_seq, k_cond, wpk_block, wpk_exit, wpk_ret, wpk_goto, wpk_label, wpk_loop, k_ops, k_draw0, t_nil, t_cons, KT_eq, KD_eq, wpo_nil, k_cons, k_step, mt_some, mtk_some, KO_eq, KP_eq, K_normal, K_ret, K_exit, KB_normal, KB_ret, KB_exit, KL_normal, KL_ret, KL_exit, K_goto, KB_goto, KL_goto, KS_goto, KS_ret, KS_normal, KS_exit, k_ret, k_normal, stepE, isCall, calleeE, opE, wantE, odE, odS, odL, odSL, fget, fput, initE, keepF, List.map_cons, List.map_nil, binE, intOp, strOp, shOp, unE, eqpE, eqnE, neqB, ressE, resE, packL, packE, flat1, fcells, fillE, setL, cellsOf_bind, cellsO_own, cellsO_ro, lenE_sl, lenE_nils, lenE_sl0, bound, rep, minE, maxE, Option.getD_some, Option.getD_none, isKey, nlS, List.getElem?_cons_zero, List.getElem?_cons_succ, get_lt, set_lt, get_len, get_len_add, set_len, set_len_add, List.append_assoc, List.cons_append, List.nil_append, -getElem?_pos, l15_1_1, l15_1, l1, hlt]
        exact exit
    · rintro x fr' h2 ⟨rfl, gr2, w, L, ow, hL, hL6, rfl⟩
      simp [wpk_skip, wpk_seq, k_cond, wpk_block, wpk_exit, wpk_ret, wpk_goto, wpk_label, wpk_loop, k_ops, k_draw0, t_nil, t_cons, KT_eq, KD_eq, wpo_nil, k_cons, k_step, mt_some, mtk_some, KO_eq, KP_eq, K_normal, K_ret, K_exit, KB_normal, KB_ret, KB_exit, KL_normal, KL_ret, KL_exit, K_goto, KB_goto, KL_goto, KS_goto, KS_ret, KS_normal, KS_exit, k_ret, k_normal, stepE, isCall, calleeE, opE, wantE, odE, odS, odL, odSL, fget, fput, initE, keepF, List.map_cons, List.map_nil, binE, intOp, strOp, shOp, unE, eqpE, eqnE, neqB, ressE, resE, packL, packE, flat1, fcells, fillE, setL, cellsOf_bind, cellsO_own, cellsO_ro, lenE_sl, lenE_nils, lenE_sl0, bound, rep, minE, maxE, Option.getD_some, Option.getD_none, isKey, nlS, List.getElem?_cons_zero, List.getElem?_cons_succ, get_lt, set_lt, get_len, get_len_add, set_len, set_len_add, List.append_assoc, List.cons_append, List.nil_append, -getElem?_pos, ]
      exact hΨ _ _ ⟨gr2, w, L, rfl, ow, hL, hL6⟩
end Go.Proofs.YtbgfcgmbihhlbaaDoor.Ev.CW
