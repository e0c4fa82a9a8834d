/- Scripts as bytes: many commands, on the small machine. -/
import Derived.Test.YtbgfcgmbihhlbaaDoorWrA
set_option linter.unusedSimpArgs false
set_option linter.unusedVariables false
namespace Go.Proofs.YtbgfcgmbihhlbaaDoor.Ev.CW
open Go
open CK (Cm encC fieldsL fieldsB okC cmOf_enc)

theorem short_ok {m : Cm} (h : okC m = true) : Short m := by
  unfold okC at h
  simp only [Bool.and_eq_true] at h
  have h1 := List.all_eq_true.1 h.2.1
  have key : ∀ (c : UInt8) (s : ByteArray), (if CK.hasF m.k c then CK.nameF s else s.toList.isEmpty) = true → s.size ≤ 255 := by
    intro c s hs
    split at hs
    · unfold CK.nameF at hs
      simp only [Bool.and_eq_true, decide_eq_true_eq] at hs
      omega
    · rw [ByteArray.toList_eq] at hs
      have : s.data.toList = [] := by simpa using hs
      have h2 := congrArg List.length this
      rw [Array.length_toList] at h2
      show s.data.size ≤ 255
      rw [h2]; simp
  exact ⟨key 73 m.a (h1 (.str ⟨#[73]⟩, .str m.a) (by simp [CK.txtM])), key 75 m.b (h1 (.str ⟨#[75]⟩, .str m.b) (by simp [CK.txtM])), key 74 m.j (h1 (.str ⟨#[74]⟩, .str m.j) (by simp [CK.txtM]))⟩
theorem packC_len {m : Cm} (hm : Short m) : (packC m).length ≤ 1537 ∧ packC m ≠ [] := by
  unfold packC
  have := flat_le m hm (fieldsL m.k)
  have := fields_len m.k
  refine ⟨by rw [List.length_cons]; omega, by simp⟩
theorem packs_len : ∀ (l : List Cm), (∀ m ∈ l, okC m = true) → (l.flatMap packC).length ≤ 1537 * l.length
  | [], _ => by simp
  | m :: l, h => by
    rw [List.flatMap_cons, List.length_append, List.length_cons]
    have := (packC_len (short_ok (h m List.mem_cons_self))).1
    have := packs_len l (fun x hx => h x (List.mem_cons_of_mem _ hx))
    omega
theorem store12 (m : Cm) : setL [.int .i64 0, .str ⟨#[]⟩, .str ⟨#[]⟩, .str ⟨#[]⟩, .int .i64 0, .int .i64 0, .int .i64 0, .int .i64 0, .int .i64 0, .int .i64 0, .int .i64 0, .int .i64 0] 0 (encC m) = encC m := rfl

set_option maxRecDepth 20000 in
set_option maxHeartbeats 4000000 in
theorem packs_ok {h : LH} {v : SV} {l : List Cm} (r : Rd h 23 12 encC v l) (hl : l.length < 1000) :
    WPc C 9 [.s v] h fun u h' => Gr h h' ∧ ((l.all okC = true ∧ ∃ w, u = .tup [.s w, .s (.int .i64 0)] ∧ Ow h.length h' 5 encB w (l.flatMap packC)) ∨ (l.all okC = false ∧ u = .tup [.s .nils, .s (.int .i64 1)])) := by
  refine WPc.post fun Ψ hΨ => ?_
  refine WPc.intro (e := e9) rfl (by simp [e9]) ?_
  show WPk C b9 _ _ (KR [.tmp 2, .tmp 3] _)
  simp [wpk_skip, wpk_seq, k_cond, wpk_block, wpk_exit, wpk_ret, wpk_goto, wpk_label, wpk_loop, k_ops, k_draw0, t_nil, t_cons, KT_eq, KD_eq, wpo_nil, k_cons, k_step, mt_some, mtk_some, KO_eq, KP_eq, K_normal, K_ret, K_exit, KB_normal, KB_ret, KB_exit, KL_normal, KL_ret, KL_exit, K_goto, KB_goto, KL_goto, KS_goto, KS_ret, KS_normal, KS_exit, k_ret, k_normal, stepE, isCall, calleeE, opE, wantE, odE, odS, odL, odSL, fget, fput, initE, keepF, List.map_cons, List.map_nil, binE, intOp, strOp, shOp, unE, eqpE, eqnE, neqB, ressE, resE, packL, packE, flat1, fcells, fillE, setL, cellsOf_bind, cellsO_own, cellsO_ro, lenE_sl, lenE_nils, lenE_sl0, bound, rep, minE, maxE, Option.getD_some, Option.getD_none, isKey, nlS, List.getElem?_cons_zero, List.getElem?_cons_succ, get_lt, set_lt, get_len, get_len_add, set_len, set_len_add, List.append_assoc, List.cons_append, List.nil_append, -getElem?_pos, b9, s9_3, s9_2, s9_1, r.len]
  refine WPl.inv2 (fun n fr h' => Gr h h' ∧ ∃ k w, k ≤ l.length ∧ n = l.length - k ∧ (∀ m ∈ l.take k, okC m = true) ∧ Ow h.length h' 5 encB w ((l.take k).flatMap packC) ∧ fr = [(4, some (.s w)), (8, some (.s v)), (9, some (.s (.int .i64 l.length))), (10, some (.s (.int .i64 k)))]) ?_ _ _ _ ⟨Gr.refl _, 0, .nils, Nat.zero_le _, rfl, by simp, Ow.nil _ _, rfl⟩
  rintro I hI n fr h' ⟨gr, k, w, hk, rfl, hall, ow, rfl⟩
  refine ⟨by simp [keepF, fget], ?_⟩
  have rl := r.len
  by_cases hlt : k < l.length
  · obtain ⟨i, p, o, ob, vs, rfl, q2, q3, q4, q5, q6⟩ := (r.gr gr).at encC_len hlt
    have w3 : IntKind.i64.wrap ((k : Int) + 1) = ((k + 1 : Nat) : Int) := wrap_small (by omega) (by omega)
    have ht : l.take (k + 1) = l.take k ++ [l[k]] := List.take_succ_eq_append_getElem hlt
    have hmem : l[k] ∈ l := List.getElem_mem hlt
    generalize hm : l[k] = m at *
    have htk : (encC m).take 12 = encC m := rfl
    have hl12 : (encC m).length = 12 := rfl
    have q7 := get_lt (r := [LO.own 23 (encC m)]) (lt_of_some q2)
    cases hok : okC m with
    | false =>
      have hno : l.all okC = false := by
        rw [Bool.eq_false_iff]
        intro ha
        rw [List.all_eq_true.1 ha m hmem] at hok; cases hok
      simp [wpk_skip, wpk_seq, k_cond, wpk_block, wpk_exit, wpk_ret, wpk_goto, wpk_label, wpk_loop, k_ops, k_draw0, t_nil, t_cons, KT_eq, KD_eq, wpo_nil, k_cons, k_step, mt_some, mtk_some, KO_eq, KP_eq, K_normal, K_ret, K_exit, KB_normal, KB_ret, KB_exit, KL_normal, KL_ret, KL_exit, K_goto, KB_goto, KL_goto, KS_goto, KS_ret, KS_normal, KS_exit, k_ret, k_normal, stepE, isCall, calleeE, opE, wantE, odE, odS, odL, odSL, fget, fput, initE, keepF, List.map_cons, List.map_nil, binE, intOp, strOp, shOp, unE, eqpE, eqnE, neqB, ressE, resE, packL, packE, flat1, fcells, fillE, setL, cellsOf_bind, cellsO_own, cellsO_ro, lenE_sl, lenE_nils, lenE_sl0, bound, rep, minE, maxE, Option.getD_some, Option.getD_none, isKey, nlS, List.getElem?_cons_zero, List.getElem?_cons_succ, get_lt, set_lt, get_len, get_len_add, set_len, set_len_add, List.append_assoc, List.cons_append, List.nil_append, -getElem?_pos, l9_0_2, l9_0_1, l9_0, hlt, q2, q3, q4, q5, store12, hl12, htk, check_call, hok]
      exact hΨ _ _ ⟨gr.app _, .inr ⟨hno, rfl⟩⟩
    | true =>
      have hsh := short_ok hok
      have hpl := packC_len hsh
      have hfl := packs_len _ hall
      have hkl : (l.take k).length = k := by rw [List.length_take]; omega
      obtain ⟨L, hL⟩ : ∃ L, L = (l.take k).flatMap packC := ⟨_, rfl⟩
      rw [← hL] at ow hfl
      simp [wpk_skip, wpk_seq, k_cond, wpk_block, wpk_exit, wpk_ret, wpk_goto, wpk_label, wpk_loop, k_ops, k_draw0, t_nil, t_cons, KT_eq, KD_eq, wpo_nil, k_cons, k_step, mt_some, mtk_some, KO_eq, KP_eq, K_normal, K_ret, K_exit, KB_normal, KB_ret, KB_exit, KL_normal, KL_ret, KL_exit, K_goto, KB_goto, KL_goto, KS_goto, KS_ret, KS_normal, KS_exit, k_ret, k_normal, stepE, isCall, calleeE, opE, wantE, odE, odS, odL, odSL, fget, fput, initE, keepF, List.map_cons, List.map_nil, binE, intOp, strOp, shOp, unE, eqpE, eqnE, neqB, ressE, resE, packL, packE, flat1, fcells, fillE, setL, cellsOf_bind, cellsO_own, cellsO_ro, lenE_sl, lenE_nils, lenE_sl0, bound, rep, minE, maxE, Option.getD_some, Option.getD_none, isKey, nlS, List.getElem?_cons_zero, List.getElem?_cons_succ, get_lt, set_lt, get_len, get_len_add, set_len, set_len_add, List.append_assoc, List.cons_append, List.nil_append, -getElem?_pos, l9_0_2, l9_0_1, l9_0, hlt, q2, q3, q4, q5, store12, hl12, htk, check_call, hok]
      refine WPc.go (pack_ok m hsh _) ?_
      rintro _ h1 ⟨g1, w2, rfl, ow2⟩
      have hr := ow2.rd encB_len (z := 1)
      have ow3 := (ow.gr (Gr.self h' [LO.own 23 (encC m)])).gr g1
      have hA := ow3.app (z := 1) encB_len (n := (packC m).length) (y := 1) (by simpa using hpl.2) (by omega) ((packC m).flatMap encB) []
      rw [List.append_nil] at hA
      have gr3 := (gr.app [LO.own 23 (encC m)]).trans g1
      have ow4 := Ow.next (t := 5) (enc := encB) (v := w) (l := L) (new := packC m) (n := L.length + (packC m).length) gr3.le rfl
      have gr4 := (kill_gr gr3 ow3).app [LO.own 5 (L.flatMap encB ++ (packC m).flatMap encB)]
      simp [wpk_skip, wpk_seq, k_cond, wpk_block, wpk_exit, wpk_ret, wpk_goto, wpk_label, wpk_loop, k_ops, k_draw0, t_nil, t_cons, KT_eq, KD_eq, wpo_nil, k_cons, k_step, mt_some, mtk_some, KO_eq, KP_eq, K_normal, K_ret, K_exit, KB_normal, KB_ret, KB_exit, KL_normal, KL_ret, KL_exit, K_goto, KB_goto, KL_goto, KS_goto, KS_ret, KS_normal, KS_exit, k_ret, k_normal, stepE, isCall, calleeE, opE, wantE, odE, odS, odL, odSL, fget, fput, initE, keepF, List.map_cons, List.map_nil, binE, intOp, strOp, shOp, unE, eqpE, eqnE, neqB, ressE, resE, packL, packE, flat1, fcells, fillE, setL, cellsOf_bind, cellsO_own, cellsO_ro, lenE_sl, lenE_nils, lenE_sl0, bound, rep, minE, maxE, Option.getD_some, Option.getD_none, isKey, nlS, List.getElem?_cons_zero, List.getElem?_cons_succ, get_lt, set_lt, get_len, get_len_add, set_len, set_len_add, List.append_assoc, List.cons_append, List.nil_append, -getElem?_pos, hr.len, hr.elems, hA, w3]
      refine ⟨_, by omega, hI _ _ _ ⟨gr4, k + 1, _, by omega, rfl, ?_, ?_, rfl⟩⟩
      · intro x hx
        rw [ht] at hx
        rcases List.mem_append.1 hx with hx | hx
        · exact hall x hx
        · rw [List.mem_singleton.1 hx]; exact hok
      · rw [ht, List.flatMap_append, List.flatMap_singleton, ← hL]
        exact ow4
  · obtain rfl : k = l.length := by omega
    rw [List.take_length] at hall ow
    simp [wpk_skip, wpk_seq, k_cond, wpk_block, wpk_exit, wpk_ret, wpk_goto, wpk_label, wpk_loop, k_ops, k_draw0, t_nil, t_cons, KT_eq, KD_eq, wpo_nil, k_cons, k_step, mt_some, mtk_some, KO_eq, KP_eq, K_normal, K_ret, K_exit, KB_normal, KB_ret, KB_exit, KL_normal, KL_ret, KL_exit, K_goto, KB_goto, KL_goto, KS_goto, KS_ret, KS_normal, KS_exit, k_ret, k_normal, stepE, isCall, calleeE, opE, wantE, odE, odS, odL, odSL, fget, fput, initE, keepF, List.map_cons, List.map_nil, binE, intOp, strOp, shOp, unE, eqpE, eqnE, neqB, ressE, resE, packL, packE, flat1, fcells, fillE, setL, cellsOf_bind, cellsO_own, cellsO_ro, lenE_sl, lenE_nils, lenE_sl0, bound, rep, minE, maxE, Option.getD_some, Option.getD_none, isKey, nlS, List.getElem?_cons_zero, List.getElem?_cons_succ, get_lt, set_lt, get_len, get_len_add, set_len, set_len_add, List.append_assoc, List.cons_append, List.nil_append, -getElem?_pos, l9_0_2, l9_0_1, l9_0, hlt]
    exact hΨ _ _ ⟨gr, .inl ⟨List.all_eq_true.2 hall, w, rfl, ow⟩⟩
end Go.Proofs.YtbgfcgmbihhlbaaDoor.Ev.CW
