/- WireBack on the small machine. -/
import Derived.Test.YtbgfcgmbihhlbaaDoorWireJoins
set_option linter.unusedSimpArgs false
set_option linter.unusedVariables false
namespace Go.Proofs.YtbgfcgmbihhlbaaDoor.Ev.CW
open Go
open CK (Cm encC fieldsL fieldsB okC cmOf_enc)

theorem packC_two {m : Cm} (hm : Short m) : 2 ≤ (packC m).length := by
  unfold packC
  rw [List.length_cons]
  have hne : ∀ k : Int, fieldsL k ≠ [] := by
    intro k
    by_cases hk : k < 1 ∨ 13 ≤ k
    · rw [fieldsL_out hk]; simp
    · have hk' : k = 1 ∨ k = 2 ∨ k = 3 ∨ k = 4 ∨ k = 5 ∨ k = 6 ∨ k = 7 ∨ k = 8 ∨ k = 9 ∨ k = 10 ∨ k = 11 ∨ k = 12 := by omega
      rcases hk' with rfl | rfl | rfl | rfl | rfl | rfl | rfl | rfl | rfl | rfl | rfl | rfl <;> decide
  obtain ⟨f, r, e⟩ := List.exists_cons_of_ne_nil (hne m.k)
  rw [e, List.flatMap_cons, List.length_append]
  have := List.length_pos_iff.2 (packF_len m hm f).2
  omega

set_option maxRecDepth 20000 in
set_option maxHeartbeats 8000000 in
/-- Behind the loop, where there are some. -/
theorem back_tail {b : Nat} {h : LH} {wa wb : SV} {A : List Cm} {m : Cm} (owa : Ow b h 23 encC wa (A ++ [m])) (owb : Ow b h 5 encB wb ((A ++ [m]).flatMap packC)) (hA : ∀ x ∈ A, okC x = true ∧ M64 x) (hm : okC m = true) (h64 : M64 m) (lA : A.length ≤ 10) (cut : Int) (xr : Fr) (Ψ : FV → LH → Prop) (hΨ : ∀ h', Ψ (.s (.bool true)) h') :
    WPk C s6_7 ((3, some (.s (.int .i64 cut))) :: (9, some (.s wa)) :: (14, some (.s wb)) :: xr) h (KR [.tmp 8] Ψ) := by
  obtain ⟨j, rfl, hj⟩ : ∃ j, wa = .sl j 0 0 (A.length + 1) ∧ h[j]? = some (.own 23 ((A ++ [m]).flatMap encC)) := by
    rcases owa with ⟨e, _⟩ | ⟨j, _, e1, e2⟩
    · simp at e
    · exact ⟨j, by rw [e1]; simp, e2⟩
  have rA := owa.rd (z := 12) encC_len
  have rB := owb.rd (z := 1) encB_len
  rw [List.flatMap_append, List.flatMap_singleton] at owb rB
  have hsh := short_ok hm
  have q2 := packC_two hsh
  have q3 := (packC_len hsh).1
  have px := packs_len A (fun x hx => (hA x hx).1)
  have hb : isB (A.flatMap packC ++ packC m) := isB_app (isB_packs fun x hx => (hA x hx).1) (isB_pack hsh)
  obtain ⟨q, hq⟩ : ∃ q, q = (packC m).length := ⟨_, rfl⟩
  rw [← hq] at q2 q3
  obtain ⟨i, rfl, hi⟩ : ∃ i, wb = .sl i 0 0 ((A.flatMap packC).length + q) ∧ h[i]? = some (.own 5 ((A.flatMap packC ++ packC m).flatMap encB)) := by
    rcases owb with ⟨e, _⟩ | ⟨i, _, e1, e2⟩
    · have := congrArg List.length e
      rw [List.length_append] at this
      simp only [List.length_nil] at this
      omega
    · exact ⟨i, by rw [e1, List.length_append, hq], e2⟩
  have cut0 := fun (u : Nat) (hu : u + 1 < q) (tot : Nat) ht => unpack_cut (tot := tot) hA hm h64 (List.take_prefix (u + 1) (packC m)) (by
    intro e
    have := congrArg List.length e
    rw [List.length_take] at this
    simp only [List.length_nil] at this
    omega) (by
    intro e
    have := congrArg List.length e
    rw [List.length_take] at this
    omega) ht
  have hX : ∃ X, X = A.flatMap packC := ⟨_, rfl⟩
  obtain ⟨X, hX⟩ := hX
  rw [← hX] at owb rB px hb hi cut0 ⊢
  have w1 : IntKind.i64.wrap (((A.length + 1 : Nat) : Int) - 1) = (A.length : Nat) := by rw [wrap_small (by omega) (by omega)]; omega
  have w1' : IntKind.i64.wrap ((A.length : Int) + 1 - 1) = (A.length : Nat) := by rw [wrap_small (by omega) (by omega)]; omega
  have w0' : IntKind.i64.wrap (A.length : Int) = A.length := wrap_small (by omega) (by omega)
  have rT : Rd h 23 12 encC (.sl j 0 0 A.length) ((A ++ [m]).take A.length) := by
    have := rA
    rw [show (A.length + 1) = (A ++ [m]).length by simp] at this
    exact Rd.take (p' := 0) encC_len this (by simp)
  rw [List.take_left'  rfl] at rT
  have hal : A.all okC = true := List.all_eq_true.2 fun x hx => (hA x hx).1
  have hj' := lt_of_some hj
  have le1 : A.length ≤ A.length + 1 := Nat.le_succ _
  simp [wpk_skip, wpk_seq, k_cond, wpk_block, wpk_exit, wpk_ret, wpk_goto, wpk_label, wpk_loop, k_ops, k_draw0, t_nil, t_cons, KT_eq, KD_eq, wpo_nil, k_cons, k_step, mt_some, mtk_some, KO_eq, KP_eq, K_normal, K_ret, K_exit, KB_normal, KB_ret, KB_exit, KL_normal, KL_ret, KL_exit, K_goto, KB_goto, KL_goto, KS_goto, KS_ret, KS_normal, KS_exit, k_ret, k_normal, stepE, isCall, calleeE, opE, wantE, odE, odS, odL, odSL, fget, fput, initE, keepF, List.map_cons, List.map_nil, binE, intOp, strOp, shOp, unE, eqpE, eqnE, neqB, ressE, resE, packL, packE, flat1, fcells, fillE, setL, cellsOf_bind, cellsO_own, cellsO_ro, lenE_sl, lenE_nils, lenE_sl0, bound, rep, minE, maxE, Option.getD_some, Option.getD_none, isKey, nlS, List.getElem?_cons_zero, List.getElem?_cons_succ, get_lt, set_lt, get_len, get_len_add, set_len, set_len_add, List.append_assoc, List.cons_append, List.nil_append, -getElem?_pos, s6_7, hj, w1, w1', w0', le1]
  refine WPc.go (packs_yes rT (by omega) hal) ?_
  rintro _ h1 ⟨g1, wx, rfl, owx⟩
  rw [← hX] at owx
  have rx := owx.rd (z := 1) encB_len
  have w2 : IntKind.i64.wrap ((X.length : Int) + q - X.length) = q := by rw [wrap_small (by omega) (by omega)]; omega
  have n2 : ¬ (q : Int) < 2 := by omega
  have w3 : IntKind.i64.wrap ((q : Int) - 1) = ((q - 1 : Nat) : Int) := by rw [wrap_small (by omega) (by omega)]; omega
  have w4 : IntKind.i64.wrap ((X.length : Int) + 1) = ((X.length + 1 : Nat) : Int) := wrap_small (by omega) (by omega)
  have hw := fun h => within_ok cut ((q - 1 : Nat) : Int) (by omega) h
  have hwb := within_64 cut ((q - 1 : Nat) : Int) (by omega)
  obtain ⟨u, hu⟩ : ∃ u : Nat, cut % ((q - 1 : Nat) : Int) = u := ⟨(cut % ((q - 1 : Nat) : Int)).toNat, by omega⟩
  rw [hu] at hw hwb
  have hu1 : u + 1 < q := by omega
  have w5 : IntKind.i64.wrap ((X.length : Int) + 1 + u) = ((X.length + (u + 1) : Nat) : Int) := by rw [wrap_small (by omega) (by omega)]; omega
  have hkl : X.length + (u + 1) ≤ X.length + q := by omega
  have hkl2 : u + 1 ≤ q := by omega
  have i1 := g1.get hi
  have j1 := g1.get hj
  have rC : Rd h1 5 1 encB (.sl i 0 0 (X.length + (u + 1))) (X ++ (packC m).take (u + 1)) := by
    have h0 := rB.gr g1
    rw [show X.length + q = (X ++ packC m).length by rw [List.length_append, hq]] at h0
    have h1 := Rd.take (p' := 0) (m := X.length + (u + 1)) encB_len h0 (by rw [List.length_append]; omega)
    rwa [List.take_append, List.take_of_length_le (Nat.le_add_right _ _), Nat.add_sub_cancel_left] at h1
  have hbt : isB (X ++ (packC m).take (u + 1)) := fun x hx => (List.mem_append.1 hx).elim (fun h => hb x (List.mem_append_left _ h)) (fun h => hb x (List.mem_append_right _ (List.mem_of_mem_take h)))
  have hlt : (X ++ (packC m).take (u + 1)).length < 1000000 := by rw [List.length_append, List.length_take]; omega
  have un := unpack_ok rC (fun _ _ _ e => by cases e) hbt hlt
  rw [cut0 u hu1 _ rfl] at un
  have e0 : IntKind.i64.wrap ((X.length : Int) + 1 + (u : Int)) = (X.length : Int) + (u + 1) := by rw [wrap_small (by omega) (by omega)]; omega
  have c1 : (0 : Int) ≤ (X.length : Int) + (u + 1) := by omega
  have c2 : ((X.length : Int) + (u + 1)).toNat = X.length + (u + 1) := by omega
  have w4' : IntKind.i64.wrap ((X.length : Int) + 1) = (X.length : Int) + 1 := wrap_small (by omega) (by omega)
  simp [wpk_skip, wpk_seq, k_cond, wpk_block, wpk_exit, wpk_ret, wpk_goto, wpk_label, wpk_loop, k_ops, k_draw0, t_nil, t_cons, KT_eq, KD_eq, wpo_nil, k_cons, k_step, mt_some, mtk_some, KO_eq, KP_eq, K_normal, K_ret, K_exit, KB_normal, KB_ret, KB_exit, KL_normal, KL_ret, KL_exit, K_goto, KB_goto, KL_goto, KS_goto, KS_ret, KS_normal, KS_exit, k_ret, k_normal, stepE, isCall, calleeE, opE, wantE, odE, odS, odL, odSL, fget, fput, initE, keepF, List.map_cons, List.map_nil, binE, intOp, strOp, shOp, unE, eqpE, eqnE, neqB, ressE, resE, packL, packE, flat1, fcells, fillE, setL, cellsOf_bind, cellsO_own, cellsO_ro, lenE_sl, lenE_nils, lenE_sl0, bound, rep, minE, maxE, Option.getD_some, Option.getD_none, isKey, nlS, List.getElem?_cons_zero, List.getElem?_cons_succ, get_lt, set_lt, get_len, get_len_add, set_len, set_len_add, List.append_assoc, List.cons_append, List.nil_append, -getElem?_pos, s6_8, s6_9, s6_10, s6_11, rx.len, w2, n2, w3, w4', hw, e0, c1, c2, i1, hkl, hkl2]
  refine WPc.go un ?_
  rintro _ h2 ⟨g2, rfl⟩
  have j2 := g2.get j1
  have tk12 : ∀ m : Cm, (encC m).take 12 = encC m := fun _ => rfl
  have cl12 : ∀ m : Cm, (encC m).length = 12 := fun _ => rfl
  have st12 : setL [SV.int .i64 0, SV.str ⟨#[]⟩, SV.str ⟨#[]⟩, SV.str ⟨#[]⟩, SV.int .i64 0, SV.int .i64 0, SV.int .i64 0, SV.int .i64 0, SV.int .i64 0, SV.int .i64 0, SV.int .i64 0, SV.int .i64 0] 0 (encC m) = encC m := rfl
  have fl : ((A ++ [m]).flatMap encC).length = (A.length + 1) * 12 := by rw [flat_len encC_len]; simp
  have fa : (((A ++ [m]).flatMap encC).drop (A.length * 12)).take 12 = encC m := by
    have := flat_at encC_len (A ++ [m]) A.length (by simp)
    rw [this]; simp
  have fb : A.length * 12 + 12 ≤ (A.length + 1) * 12 := by omega
  have lt1 : A.length < A.length + 1 := by omega
  have lt2 : (A.length : Int) < (A.length : Int) + 1 := by omega
  have ne1 : (0 : Int) ≤ A.length := by omega
  obtain ⟨F, hF⟩ : ∃ F, F = (A ++ [m]).flatMap encC := ⟨_, rfl⟩
  rw [← hF] at j2 fl fa
  have rl : Rd (h2 ++ [LO.own 23 (encC m)]) 23 12 encC (.sl h2.length 0 0 [m].length) [m] := Rd.lit encC_len (by rw [List.flatMap_singleton]; exact get_len)
  simp [wpk_skip, wpk_seq, k_cond, wpk_block, wpk_exit, wpk_ret, wpk_goto, wpk_label, wpk_loop, k_ops, k_draw0, t_nil, t_cons, KT_eq, KD_eq, wpo_nil, k_cons, k_step, mt_some, mtk_some, KO_eq, KP_eq, K_normal, K_ret, K_exit, KB_normal, KB_ret, KB_exit, KL_normal, KL_ret, KL_exit, K_goto, KB_goto, KL_goto, KS_goto, KS_ret, KS_normal, KS_exit, k_ret, k_normal, stepE, isCall, calleeE, opE, wantE, odE, odS, odL, odSL, fget, fput, initE, keepF, List.map_cons, List.map_nil, binE, intOp, strOp, shOp, unE, eqpE, eqnE, neqB, ressE, resE, packL, packE, flat1, fcells, fillE, setL, cellsOf_bind, cellsO_own, cellsO_ro, lenE_sl, lenE_nils, lenE_sl0, bound, rep, minE, maxE, Option.getD_some, Option.getD_none, isKey, nlS, List.getElem?_cons_zero, List.getElem?_cons_succ, get_lt, set_lt, get_len, get_len_add, set_len, set_len_add, List.append_assoc, List.cons_append, List.nil_append, -getElem?_pos, s6_12, w1, w1', w0', lt1, lt2, ne1, j2, fl, fa, fb, cl12, tk12, st12]
  refine WPc.go (packs_yes rl (by simp) (by simp [hm])) ?_
  rintro _ h3 ⟨g3, wy, rfl, owy⟩
  rw [List.flatMap_singleton] at owy
  have g23 := (Gr.self h2 [LO.own 23 (encC m)]).trans g3
  have rx3 := (rx.gr g2).gr g23
  have rB3 := ((rB.gr g1).gr g2).gr g23
  have eX : ((X.length : Int) == X.length) = true := by simp
  simp [wpk_skip, wpk_seq, k_cond, wpk_block, wpk_exit, wpk_ret, wpk_goto, wpk_label, wpk_loop, k_ops, k_draw0, t_nil, t_cons, KT_eq, KD_eq, wpo_nil, k_cons, k_step, mt_some, mtk_some, KO_eq, KP_eq, K_normal, K_ret, K_exit, KB_normal, KB_ret, KB_exit, KL_normal, KL_ret, KL_exit, K_goto, KB_goto, KL_goto, KS_goto, KS_ret, KS_normal, KS_exit, k_ret, k_normal, stepE, isCall, calleeE, opE, wantE, odE, odS, odL, odSL, fget, fput, initE, keepF, List.map_cons, List.map_nil, binE, intOp, strOp, shOp, unE, eqpE, eqnE, neqB, ressE, resE, packL, packE, flat1, fcells, fillE, setL, cellsOf_bind, cellsO_own, cellsO_ro, lenE_sl, lenE_nils, lenE_sl0, bound, rep, minE, maxE, Option.getD_some, Option.getD_none, isKey, nlS, List.getElem?_cons_zero, List.getElem?_cons_succ, get_lt, set_lt, get_len, get_len_add, set_len, set_len_add, List.append_assoc, List.cons_append, List.nil_append, -getElem?_pos, s6_13, rx.len, eX]
  refine WPc.go (copyB_ok rx3 (by omega)) ?_
  rintro _ h4 ⟨g4, wz, rfl, owz⟩
  have ry := (owy.rd (z := 1) encB_len).gr g4
  obtain ⟨xx, h5, e5, g5, ow5⟩ := app_any (y := 1) encB_len g4 owz (L := packC m) (by omega)
  have sm := sameB_ok (ow5.rd (z := 1) encB_len) (rB3.gr g5) (by rw [List.length_append]; omega)
  simp only [decide_true] at sm
  rw [← hq] at e5
  have rl5 := ry.len
  rw [← hq] at rl5
  simp [wpk_skip, wpk_seq, k_cond, wpk_block, wpk_exit, wpk_ret, wpk_goto, wpk_label, wpk_loop, k_ops, k_draw0, t_nil, t_cons, KT_eq, KD_eq, wpo_nil, k_cons, k_step, mt_some, mtk_some, KO_eq, KP_eq, K_normal, K_ret, K_exit, KB_normal, KB_ret, KB_exit, KL_normal, KL_ret, KL_exit, K_goto, KB_goto, KL_goto, KS_goto, KS_ret, KS_normal, KS_exit, k_ret, k_normal, stepE, isCall, calleeE, opE, wantE, odE, odS, odL, odSL, fget, fput, initE, keepF, List.map_cons, List.map_nil, binE, intOp, strOp, shOp, unE, eqpE, eqnE, neqB, ressE, resE, packL, packE, flat1, fcells, fillE, setL, cellsOf_bind, cellsO_own, cellsO_ro, lenE_sl, lenE_nils, lenE_sl0, bound, rep, minE, maxE, Option.getD_some, Option.getD_none, isKey, nlS, List.getElem?_cons_zero, List.getElem?_cons_succ, get_lt, set_lt, get_len, get_len_add, set_len, set_len_add, List.append_assoc, List.cons_append, List.nil_append, -getElem?_pos, rl5, ry.elems, e5, sm]
  refine WPc.go (wakes_ok _) ?_
  rintro _ h6 ⟨_, rfl⟩
  simp [wpk_skip, wpk_seq, k_cond, wpk_block, wpk_exit, wpk_ret, wpk_goto, wpk_label, wpk_loop, k_ops, k_draw0, t_nil, t_cons, KT_eq, KD_eq, wpo_nil, k_cons, k_step, mt_some, mtk_some, KO_eq, KP_eq, K_normal, K_ret, K_exit, KB_normal, KB_ret, KB_exit, KL_normal, KL_ret, KL_exit, K_goto, KB_goto, KL_goto, KS_goto, KS_ret, KS_normal, KS_exit, k_ret, k_normal, stepE, isCall, calleeE, opE, wantE, odE, odS, odL, odSL, fget, fput, initE, keepF, List.map_cons, List.map_nil, binE, intOp, strOp, shOp, unE, eqpE, eqnE, neqB, ressE, resE, packL, packE, flat1, fcells, fillE, setL, cellsOf_bind, cellsO_own, cellsO_ro, lenE_sl, lenE_nils, lenE_sl0, bound, rep, minE, maxE, Option.getD_some, Option.getD_none, isKey, nlS, List.getElem?_cons_zero, List.getElem?_cons_succ, get_lt, set_lt, get_len, get_len_add, set_len, set_len_add, List.append_assoc, List.cons_append, List.nil_append, -getElem?_pos, ]
  exact hΨ _

set_option maxRecDepth 20000 in
set_option maxHeartbeats 8000000 in
theorem wireBack_ok {h0 : LH} {v0 v1 v2 : SV} {cs : List Pc} {rs : List Cm} {hs : List Int} (r0 : Rd h0 63 5 encP v0 cs) (r1 : Rd h0 23 12 encC v1 rs) (r2 : Rd h0 3 1 encI v2 hs) (hc : ∀ x ∈ cs, P64 x) (hr : ∀ x ∈ rs, W64 x) (cut : Int) :
    ∃ h', callX C 6 [.s v0, .s v1, .s v2, .s (.int .i64 cut)] h0 = some (.s (.bool true), h') ∧ True := by
  suffices w : WPc C 6 [.s v0, .s v1, .s v2, .s (.int .i64 cut)] h0 fun u _ => u = .s (.bool true) by
    obtain ⟨v, h', e, rfl⟩ := w
    exact ⟨h', e, trivial⟩
  refine WPc.post fun Ψ hΨ => ?_
  refine WPc.intro (e := e6) rfl (by simp [e6]) ?_
  show WPk C b6 _ _ (KR [.tmp 8] _)
  have tk12 : ∀ m : Cm, (encC m).take 12 = encC m := fun _ => rfl
  have cl12 : ∀ m : Cm, (encC m).length = 12 := fun _ => rfl
  simp [wpk_skip, wpk_seq, k_cond, wpk_block, wpk_exit, wpk_ret, wpk_goto, wpk_label, wpk_loop, k_ops, k_draw0, t_nil, t_cons, KT_eq, KD_eq, wpo_nil, k_cons, k_step, mt_some, mtk_some, KO_eq, KP_eq, K_normal, K_ret, K_exit, KB_normal, KB_ret, KB_exit, KL_normal, KL_ret, KL_exit, K_goto, KB_goto, KL_goto, KS_goto, KS_ret, KS_normal, KS_exit, k_ret, k_normal, stepE, isCall, calleeE, opE, wantE, odE, odS, odL, odSL, fget, fput, initE, keepF, List.map_cons, List.map_nil, binE, intOp, strOp, shOp, unE, eqpE, eqnE, neqB, ressE, resE, packL, packE, flat1, fcells, fillE, setL, cellsOf_bind, cellsO_own, cellsO_ro, lenE_sl, lenE_nils, lenE_sl0, bound, rep, minE, maxE, Option.getD_some, Option.getD_none, isKey, nlS, List.getElem?_cons_zero, List.getElem?_cons_succ, get_lt, set_lt, get_len, get_len_add, set_len, set_len_add, List.append_assoc, List.cons_append, List.nil_append, -getElem?_pos, b6, s6_1, s6_2, s6_3, s6_4, s6_5]
  refine WPc.go (some_ok r0 r1 r2 hc hr) ?_
  rintro _ h1 ⟨g1, w1, L1, rfl, ow1, h64, hlen⟩
  have rL1 := ow1.rd (z := 12) encC_len
  simp [wpk_skip, wpk_seq, k_cond, wpk_block, wpk_exit, wpk_ret, wpk_goto, wpk_label, wpk_loop, k_ops, k_draw0, t_nil, t_cons, KT_eq, KD_eq, wpo_nil, k_cons, k_step, mt_some, mtk_some, KO_eq, KP_eq, K_normal, K_ret, K_exit, KB_normal, KB_ret, KB_exit, KL_normal, KL_ret, KL_exit, K_goto, KB_goto, KL_goto, KS_goto, KS_ret, KS_normal, KS_exit, k_ret, k_normal, stepE, isCall, calleeE, opE, wantE, odE, odS, odL, odSL, fget, fput, initE, keepF, List.map_cons, List.map_nil, binE, intOp, strOp, shOp, unE, eqpE, eqnE, neqB, ressE, resE, packL, packE, flat1, fcells, fillE, setL, cellsOf_bind, cellsO_own, cellsO_ro, lenE_sl, lenE_nils, lenE_sl0, bound, rep, minE, maxE, Option.getD_some, Option.getD_none, isKey, nlS, List.getElem?_cons_zero, List.getElem?_cons_succ, get_lt, set_lt, get_len, get_len_add, set_len, set_len_add, List.append_assoc, List.cons_append, List.nil_append, -getElem?_pos, rL1.len]
  refine WPl.post (fun x fr' h' => x = .exit 0 ∧ Gr h1 h' ∧ ∃ w, Ow h1.length h' 23 encC w (L1.filter okC) ∧ fr' = [(3, some (.s (.int .i64 cut))), (9, some (.s w))]) (fun Φ hΦ => ?_) ?_
  · refine WPl.inv2 (fun n fr h' => Gr h1 h' ∧ ∃ k w, k ≤ L1.length ∧ n = L1.length - k ∧ Ow h1.length h' 23 encC w ((L1.take k).filter okC) ∧ fr = [(3, some (.s (.int .i64 cut))), (9, some (.s w)), (31, some (.s w1)), (32, some (.s (.int .i64 L1.length))), (33, some (.s (.int .i64 k)))]) ?_ _ _ _ ⟨Gr.refl _, 0, .nils, Nat.zero_le _, rfl, Ow.nil _ _, by simp⟩
    rintro I hI n fr h' ⟨gr, k, w, hk, rfl, ow, rfl⟩
    refine ⟨by simp [keepF, fget], ?_⟩
    have w3 : IntKind.i64.wrap ((k : Int) + 1) = ((k + 1 : Nat) : Int) := wrap_small (by omega) (by omega)
    by_cases hlt : k < L1.length
    · obtain ⟨i, p, o, ob, vs, rfl, q2, q3, q4, q5, q6⟩ := (rL1.gr gr).at encC_len hlt
      have ht : L1.take (k + 1) = L1.take k ++ [L1[k]] := List.take_succ_eq_append_getElem hlt
      generalize hm : L1[k] = m at *
      have st12 : setL [SV.int .i64 0, SV.str ⟨#[]⟩, SV.str ⟨#[]⟩, SV.str ⟨#[]⟩, SV.int .i64 0, SV.int .i64 0, SV.int .i64 0, SV.int .i64 0, SV.int .i64 0, SV.int .i64 0, SV.int .i64 0, SV.int .i64 0] 0 (encC m) = encC m := rfl
      have hlen' : ((L1.take k).filter okC).length ≤ 10 := Nat.le_trans (List.length_filter_le _ _) (by rw [List.length_take]; omega)
      have rl : Rd (h' ++ [LO.own 23 (encC m), LO.own 23 (encC m)]) 23 12 encC (.sl (h'.length + 1) 0 0 [m].length) [m] := Rd.lit encC_len (by rw [List.flatMap_singleton]; exact get_len_add)
      simp [wpk_skip, wpk_seq, k_cond, wpk_block, wpk_exit, wpk_ret, wpk_goto, wpk_label, wpk_loop, k_ops, k_draw0, t_nil, t_cons, KT_eq, KD_eq, wpo_nil, k_cons, k_step, mt_some, mtk_some, KO_eq, KP_eq, K_normal, K_ret, K_exit, KB_normal, KB_ret, KB_exit, KL_normal, KL_ret, KL_exit, K_goto, KB_goto, KL_goto, KS_goto, KS_ret, KS_normal, KS_exit, k_ret, k_normal, stepE, isCall, calleeE, opE, wantE, odE, odS, odL, odSL, fget, fput, initE, keepF, List.map_cons, List.map_nil, binE, intOp, strOp, shOp, unE, eqpE, eqnE, neqB, ressE, resE, packL, packE, flat1, fcells, fillE, setL, cellsOf_bind, cellsO_own, cellsO_ro, lenE_sl, lenE_nils, lenE_sl0, bound, rep, minE, maxE, Option.getD_some, Option.getD_none, isKey, nlS, List.getElem?_cons_zero, List.getElem?_cons_succ, get_lt, set_lt, get_len, get_len_add, set_len, set_len_add, List.append_assoc, List.cons_append, List.nil_append, -getElem?_pos, l6_0_2, l6_0_1, l6_0, hlt, q2, q3, q4, q5, cl12, tk12, st12]
      cases hok : okC m with
      | false =>
        refine WPc.go (packs_no rl (by simp) (by simp [hok])) ?_
        rintro _ h2 ⟨g2, rfl⟩
        have gg : Gr h1 h2 := gr.trans ((Gr.self h' _).trans g2)
        have hm2 : h2[h'.length]? = some (.own 23 (encC m)) := g2.get get_len
        have ow2 := ow.gr ((Gr.self h' [LO.own 23 (encC m), LO.own 23 (encC m)]).trans g2)
        simp [wpk_skip, wpk_seq, k_cond, wpk_block, wpk_exit, wpk_ret, wpk_goto, wpk_label, wpk_loop, k_ops, k_draw0, t_nil, t_cons, KT_eq, KD_eq, wpo_nil, k_cons, k_step, mt_some, mtk_some, KO_eq, KP_eq, K_normal, K_ret, K_exit, KB_normal, KB_ret, KB_exit, KL_normal, KL_ret, KL_exit, K_goto, KB_goto, KL_goto, KS_goto, KS_ret, KS_normal, KS_exit, k_ret, k_normal, stepE, isCall, calleeE, opE, wantE, odE, odS, odL, odSL, fget, fput, initE, keepF, List.map_cons, List.map_nil, binE, intOp, strOp, shOp, unE, eqpE, eqnE, neqB, ressE, resE, packL, packE, flat1, fcells, fillE, setL, cellsOf_bind, cellsO_own, cellsO_ro, lenE_sl, lenE_nils, lenE_sl0, bound, rep, minE, maxE, Option.getD_some, Option.getD_none, isKey, nlS, List.getElem?_cons_zero, List.getElem?_cons_succ, get_lt, set_lt, get_len, get_len_add, set_len, set_len_add, List.append_assoc, List.cons_append, List.nil_append, -getElem?_pos, w3]
        refine ⟨L1.length - (k + 1), by omega, hI _ _ _ ⟨gg, k + 1, w, hlt, rfl, ?_, rfl⟩⟩
        rw [ht, List.filter_append, List.filter_cons_of_neg (by simp [hok]), List.filter_nil, List.append_nil]; exact ow2
      | true =>
        refine WPc.go (packs_yes rl (by simp) (by simp [hok])) ?_
        rintro _ h2 ⟨g2, w5, rfl, _⟩
        have gg : Gr h1 h2 := gr.trans ((Gr.self h' _).trans g2)
        have hm2 : h2[h'.length]? = some (.own 23 (encC m)) := g2.get get_len
        have ow2 := ow.gr ((Gr.self h' [LO.own 23 (encC m), LO.own 23 (encC m)]).trans g2)
        have hAp := ow2.app1 (z := 12) (y := 120) encC_len (by omega) [.own 23 (encC m)] (encC m)
        obtain ⟨f1, f2⟩ := Ow.step gg ow2 m [.own 23 (encC m)] (n := ((L1.take k).filter okC).length + 1) (cs := encC m) (m := 1) rfl rfl rfl
        simp [wpk_skip, wpk_seq, k_cond, wpk_block, wpk_exit, wpk_ret, wpk_goto, wpk_label, wpk_loop, k_ops, k_draw0, t_nil, t_cons, KT_eq, KD_eq, wpo_nil, k_cons, k_step, mt_some, mtk_some, KO_eq, KP_eq, K_normal, K_ret, K_exit, KB_normal, KB_ret, KB_exit, KL_normal, KL_ret, KL_exit, K_goto, KB_goto, KL_goto, KS_goto, KS_ret, KS_normal, KS_exit, k_ret, k_normal, stepE, isCall, calleeE, opE, wantE, odE, odS, odL, odSL, fget, fput, initE, keepF, List.map_cons, List.map_nil, binE, intOp, strOp, shOp, unE, eqpE, eqnE, neqB, ressE, resE, packL, packE, flat1, fcells, fillE, setL, cellsOf_bind, cellsO_own, cellsO_ro, lenE_sl, lenE_nils, lenE_sl0, bound, rep, minE, maxE, Option.getD_some, Option.getD_none, isKey, nlS, List.getElem?_cons_zero, List.getElem?_cons_succ, get_lt, set_lt, get_len, get_len_add, set_len, set_len_add, List.append_assoc, List.cons_append, List.nil_append, -getElem?_pos, hm2, cl12, tk12, st12, elems, hAp, w3]
        refine ⟨L1.length - (k + 1), by omega, hI _ _ _ ⟨f1, k + 1, _, hlt, rfl, ?_, rfl⟩⟩
        rw [ht, List.filter_append, List.filter_cons_of_pos hok, List.filter_nil]; exact f2
    · obtain rfl : k = L1.length := by omega
      rw [List.take_length] at ow
      simp [wpk_skip, wpk_seq, k_cond, wpk_block, wpk_exit, wpk_ret, wpk_goto, wpk_label, wpk_loop, k_ops, k_draw0, t_nil, t_cons, KT_eq, KD_eq, wpo_nil, k_cons, k_step, mt_some, mtk_some, KO_eq, KP_eq, K_normal, K_ret, K_exit, KB_normal, KB_ret, KB_exit, KL_normal, KL_ret, KL_exit, K_goto, KB_goto, KL_goto, KS_goto, KS_ret, KS_normal, KS_exit, k_ret, k_normal, stepE, isCall, calleeE, opE, wantE, odE, odS, odL, odSL, fget, fput, initE, keepF, List.map_cons, List.map_nil, binE, intOp, strOp, shOp, unE, eqpE, eqnE, neqB, ressE, resE, packL, packE, flat1, fcells, fillE, setL, cellsOf_bind, cellsO_own, cellsO_ro, lenE_sl, lenE_nils, lenE_sl0, bound, rep, minE, maxE, Option.getD_some, Option.getD_none, isKey, nlS, List.getElem?_cons_zero, List.getElem?_cons_succ, get_lt, set_lt, get_len, get_len_add, set_len, set_len_add, List.append_assoc, List.cons_append, List.nil_append, -getElem?_pos, l6_0_2, l6_0_1, l6_0]
      exact hΦ _ _ _ ⟨rfl, gr, w, ow, rfl⟩
  rintro x fr' h2 ⟨rfl, g2, wa, owa, rfl⟩
  have oA : ∀ m ∈ L1.filter okC, okC m = true ∧ M64 m := fun m hm => ⟨(List.mem_filter.1 hm).2, (h64 m (List.mem_filter.1 hm).1).m⟩
  have lA : (L1.filter okC).length ≤ 10 := Nat.le_trans (List.length_filter_le _ _) hlen
  generalize L1.filter okC = A at *
  have aA : A.all okC = true := List.all_eq_true.2 fun m hm => (oA m hm).1
  have rA := owa.rd (z := 12) encC_len
  simp [wpk_skip, wpk_seq, k_cond, wpk_block, wpk_exit, wpk_ret, wpk_goto, wpk_label, wpk_loop, k_ops, k_draw0, t_nil, t_cons, KT_eq, KD_eq, wpo_nil, k_cons, k_step, mt_some, mtk_some, KO_eq, KP_eq, K_normal, K_ret, K_exit, KB_normal, KB_ret, KB_exit, KL_normal, KL_ret, KL_exit, K_goto, KB_goto, KL_goto, KS_goto, KS_ret, KS_normal, KS_exit, k_ret, k_normal, stepE, isCall, calleeE, opE, wantE, odE, odS, odL, odSL, fget, fput, initE, keepF, List.map_cons, List.map_nil, binE, intOp, strOp, shOp, unE, eqpE, eqnE, neqB, ressE, resE, packL, packE, flat1, fcells, fillE, setL, cellsOf_bind, cellsO_own, cellsO_ro, lenE_sl, lenE_nils, lenE_sl0, bound, rep, minE, maxE, Option.getD_some, Option.getD_none, isKey, nlS, List.getElem?_cons_zero, List.getElem?_cons_succ, get_lt, set_lt, get_len, get_len_add, set_len, set_len_add, List.append_assoc, List.cons_append, List.nil_append, -getElem?_pos, ]
  refine WPc.go (packs_yes rA (by omega) aA) ?_
  rintro _ h3 ⟨g3, wb, rfl, owb⟩
  have px := packs_len A (fun m hm => (oA m hm).1)
  have rB := owb.rd (z := 1) encB_len
  have s8 : ∀ j p o, wb ≠ .sl0 j p o := by
    intro j p o
    rcases owb with ⟨_, rfl⟩ | ⟨_, _, rfl, _⟩ <;> (intro e; cases e)
  have un := unpack_ok rB s8 (isB_packs fun m hm => (oA m hm).1) (by omega)
  rw [unpack_all oA] at un
  have rB := owb.rd (z := 1) encB_len
  simp [wpk_skip, wpk_seq, k_cond, wpk_block, wpk_exit, wpk_ret, wpk_goto, wpk_label, wpk_loop, k_ops, k_draw0, t_nil, t_cons, KT_eq, KD_eq, wpo_nil, k_cons, k_step, mt_some, mtk_some, KO_eq, KP_eq, K_normal, K_ret, K_exit, KB_normal, KB_ret, KB_exit, KL_normal, KL_ret, KL_exit, K_goto, KB_goto, KL_goto, KS_goto, KS_ret, KS_normal, KS_exit, k_ret, k_normal, stepE, isCall, calleeE, opE, wantE, odE, odS, odL, odSL, fget, fput, initE, keepF, List.map_cons, List.map_nil, binE, intOp, strOp, shOp, unE, eqpE, eqnE, neqB, ressE, resE, packL, packE, flat1, fcells, fillE, setL, cellsOf_bind, cellsO_own, cellsO_ro, lenE_sl, lenE_nils, lenE_sl0, bound, rep, minE, maxE, Option.getD_some, Option.getD_none, isKey, nlS, List.getElem?_cons_zero, List.getElem?_cons_succ, get_lt, set_lt, get_len, get_len_add, set_len, set_len_add, List.append_assoc, List.cons_append, List.nil_append, -getElem?_pos, ]
  refine WPc.go un ?_
  rintro _ h4 ⟨g4, wl, rfl, owl⟩
  have rA4 := (rA.gr g3).gr g4
  have sm := sameC_ok rA4 (owl.rd (z := 12) encC_len) (by omega)
  simp only [decide_true] at sm
  have rB4 := rB.gr g4
  rcases List.eq_nil_or_concat A with rfl | ⟨A', m, rfl⟩
  · have e0 := rA4.len
    have e1 := rB4.len
    simp only [List.length_nil, List.flatMap_nil] at e0 e1
    simp [wpk_skip, wpk_seq, k_cond, wpk_block, wpk_exit, wpk_ret, wpk_goto, wpk_label, wpk_loop, k_ops, k_draw0, t_nil, t_cons, KT_eq, KD_eq, wpo_nil, k_cons, k_step, mt_some, mtk_some, KO_eq, KP_eq, K_normal, K_ret, K_exit, KB_normal, KB_ret, KB_exit, KL_normal, KL_ret, KL_exit, K_goto, KB_goto, KL_goto, KS_goto, KS_ret, KS_normal, KS_exit, k_ret, k_normal, stepE, isCall, calleeE, opE, wantE, odE, odS, odL, odSL, fget, fput, initE, keepF, List.map_cons, List.map_nil, binE, intOp, strOp, shOp, unE, eqpE, eqnE, neqB, ressE, resE, packL, packE, flat1, fcells, fillE, setL, cellsOf_bind, cellsO_own, cellsO_ro, lenE_sl, lenE_nils, lenE_sl0, bound, rep, minE, maxE, Option.getD_some, Option.getD_none, isKey, nlS, List.getElem?_cons_zero, List.getElem?_cons_succ, get_lt, set_lt, get_len, get_len_add, set_len, set_len_add, List.append_assoc, List.cons_append, List.nil_append, -getElem?_pos, sm, s6_6, e0, e1]
    refine WPc.go (wakes_ok _) ?_
    rintro _ h5 ⟨_, rfl⟩
    simp [wpk_skip, wpk_seq, k_cond, wpk_block, wpk_exit, wpk_ret, wpk_goto, wpk_label, wpk_loop, k_ops, k_draw0, t_nil, t_cons, KT_eq, KD_eq, wpo_nil, k_cons, k_step, mt_some, mtk_some, KO_eq, KP_eq, K_normal, K_ret, K_exit, KB_normal, KB_ret, KB_exit, KL_normal, KL_ret, KL_exit, K_goto, KB_goto, KL_goto, KS_goto, KS_ret, KS_normal, KS_exit, k_ret, k_normal, stepE, isCall, calleeE, opE, wantE, odE, odS, odL, odSL, fget, fput, initE, keepF, List.map_cons, List.map_nil, binE, intOp, strOp, shOp, unE, eqpE, eqnE, neqB, ressE, resE, packL, packE, flat1, fcells, fillE, setL, cellsOf_bind, cellsO_own, cellsO_ro, lenE_sl, lenE_nils, lenE_sl0, bound, rep, minE, maxE, Option.getD_some, Option.getD_none, isKey, nlS, List.getElem?_cons_zero, List.getElem?_cons_succ, get_lt, set_lt, get_len, get_len_add, set_len, set_len_add, List.append_assoc, List.cons_append, List.nil_append, -getElem?_pos, ]
    exact hΨ _ _ rfl
  · have e0 := rA4.len
    rw [List.concat_eq_append] at *
    rw [List.length_append, List.length_singleton] at e0 lA
    have ne : ¬ ((A'.length : Int) + 1 = 0) := by omega
    have ne' : (((A'.length : Int) + 1) == 0) = false := by simpa using ne
    obtain ⟨hm, hm64⟩ := oA m (by simp)
    have gg := g3.trans g4
    have tl := fun xr => back_tail (((owa.gr gg).base (Nat.zero_le _))) ((owb.gr g4).base (Nat.zero_le _)) (fun x hx => oA x (by simp [hx])) hm hm64 (by omega) cut xr Ψ (fun h' => hΨ _ _ rfl)
    generalize hK : s6_7 = K at *
    simp [wpk_skip, wpk_seq, k_cond, wpk_block, wpk_exit, wpk_ret, wpk_goto, wpk_label, wpk_loop, k_ops, k_draw0, t_nil, t_cons, KT_eq, KD_eq, wpo_nil, k_cons, k_step, mt_some, mtk_some, KO_eq, KP_eq, K_normal, K_ret, K_exit, KB_normal, KB_ret, KB_exit, KL_normal, KL_ret, KL_exit, K_goto, KB_goto, KL_goto, KS_goto, KS_ret, KS_normal, KS_exit, k_ret, k_normal, stepE, isCall, calleeE, opE, wantE, odE, odS, odL, odSL, fget, fput, initE, keepF, List.map_cons, List.map_nil, binE, intOp, strOp, shOp, unE, eqpE, eqnE, neqB, ressE, resE, packL, packE, flat1, fcells, fillE, setL, cellsOf_bind, cellsO_own, cellsO_ro, lenE_sl, lenE_nils, lenE_sl0, bound, rep, minE, maxE, Option.getD_some, Option.getD_none, isKey, nlS, List.getElem?_cons_zero, List.getElem?_cons_succ, get_lt, set_lt, get_len, get_len_add, set_len, set_len_add, List.append_assoc, List.cons_append, List.nil_append, -getElem?_pos, sm, s6_6, e0, ne, ne', hK]
    exact tl _
theorem wireBack_row {h0 : LH} {v0 v1 v2 : SV} {cs : List Pc} {rs : List Cm} {hs : List Int} (i0 : RowA h0 63 encP v0 cs) (i1 : RowA h0 23 encC v1 rs) (i2 : IntA h0 3 v2 hs) (a3 : Int) (z0 : ∀ x ∈ cs, goodP x) (z1 : ∀ x ∈ rs, goodC x) (z2 : ∀ z ∈ hs, (Lit.int .i64 z).wf = true) (w3 : is64 a3) :
    ∃ h', callX C 6 [.s v0, .s v1, .s v2, .s (.int .i64 a3)] h0 = some (.s (.bool true), h') ∧ True :=
  wireBack_ok (i0.rd encP_len) (i1.rd encC_len) i2.rd (fun x hx => goodP_64 (z0 x hx)) (fun x hx => goodC_64 (z1 x hx)) a3
end Go.Proofs.YtbgfcgmbihhlbaaDoor.Ev.CW
