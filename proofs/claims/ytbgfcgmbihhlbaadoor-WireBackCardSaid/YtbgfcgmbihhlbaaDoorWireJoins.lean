/- WireJoins on the small machine. -/
import Derived.Test.YtbgfcgmbihhlbaaDoorWsE
import Derived.Test.YtbgfcgmbihhlbaaDoorWrI
import Derived.Test.YtbgfcgmbihhlbaaDoorWsR
set_option linter.unusedSimpArgs false
set_option linter.unusedVariables false
namespace Go.Proofs.YtbgfcgmbihhlbaaDoor.Ev.CW
open Go
open CK (Cm encC fieldsL fieldsB okC cmOf_enc)

theorem nilC : okC (zeroC 11) = false := by
  have h : CK.hasF 11 73 = true := by decide
  unfold okC
  rw [Bool.eq_false_iff]
  intro hh
  simp only [Bool.and_eq_true, List.all_eq_true] at hh
  have := hh.2.1 (.str ⟨#[73]⟩, .str ⟨#[]⟩) (by simp [CK.txtM, zeroC])
  have e : CK.good1 11 (SV.str ⟨#[73]⟩, SV.str ⟨#[]⟩) = CK.nameF ⟨#[]⟩ := rfl
  revert this
  show ¬ CK.good1 11 (SV.str ⟨#[73]⟩, SV.str ⟨#[]⟩) = true
  rw [e]; decide

theorem app_any {α : Type} {enc : α → List SV} {t z y : Nat} (he : ∀ a, (enc a).length = z) {hb h : LH} {v : SV} {l L : List α} (gr : Gr hb h) (ow : Ow hb.length h t enc v l) (hy : (l.length + L.length) * y ≤ 140737488355328) :
    ∃ x h2, appE h t z y v L.length (L.flatMap enc) = some (.s x, h2) ∧ Gr hb h2 ∧ Ow hb.length h2 t enc x (l ++ L) := by
  by_cases hL : L.length = 0
  · obtain rfl := List.eq_nil_of_length_eq_zero hL
    refine ⟨v, h, ?_, gr, by rw [List.append_nil]; exact ow⟩
    rcases ow with ⟨_, rfl⟩ | ⟨j, _, rfl, _⟩
    · exact appE_zero_nils
    · exact appE_zero_sl
  · have hA := ow.app (z := z) he (n := L.length) (y := y) hL hy (L.flatMap enc) []
    rw [List.append_nil] at hA
    refine ⟨_, _, hA, (kill_gr gr ow).app _, ?_⟩
    exact Ow.next gr.le rfl

set_option maxRecDepth 20000 in
set_option maxHeartbeats 8000000 in
theorem joins_end {h : LH} {v : SV} {bad : List Cm} (r : Rd h 23 12 encC v bad) (hl : bad.length < 1000) (hno : bad.all okC = false) (xr : Fr) (Ψ : FV → LH → Prop) (hΨ : ∀ h', Ψ (.s (.bool true)) h') :
    WPk C s7_10 ((25, some (.s v)) :: xr) h (KR [.tmp 6] Ψ) := by
  simp [wpk_skip, wpk_seq, k_cond, wpk_block, wpk_exit, wpk_ret, wpk_goto, wpk_label, wpk_loop, k_ops, k_draw0, t_nil, t_cons, KT_eq, KD_eq, wpo_nil, k_cons, k_step, mt_some, mtk_some, KO_eq, KP_eq, K_normal, K_ret, K_exit, KB_normal, KB_ret, KB_exit, KL_normal, KL_ret, KL_exit, K_goto, KB_goto, KL_goto, KS_goto, KS_ret, KS_normal, KS_exit, k_ret, k_normal, stepE, isCall, calleeE, opE, wantE, odE, odS, odL, odSL, fget, fput, initE, keepF, List.map_cons, List.map_nil, binE, intOp, strOp, shOp, unE, eqpE, eqnE, neqB, ressE, resE, packL, packE, flat1, fcells, fillE, setL, cellsOf_bind, cellsO_own, cellsO_ro, lenE_sl, lenE_nils, lenE_sl0, bound, rep, minE, maxE, Option.getD_some, Option.getD_none, isKey, nlS, List.getElem?_cons_zero, List.getElem?_cons_succ, get_lt, set_lt, get_len, get_len_add, set_len, set_len_add, List.append_assoc, List.cons_append, List.nil_append, -getElem?_pos, s7_10, s7_11]
  refine WPc.go (packs_no r hl hno) ?_
  rintro _ h1 ⟨g1, rfl⟩
  simp [wpk_skip, wpk_seq, k_cond, wpk_block, wpk_exit, wpk_ret, wpk_goto, wpk_label, wpk_loop, k_ops, k_draw0, t_nil, t_cons, KT_eq, KD_eq, wpo_nil, k_cons, k_step, mt_some, mtk_some, KO_eq, KP_eq, K_normal, K_ret, K_exit, KB_normal, KB_ret, KB_exit, KL_normal, KL_ret, KL_exit, K_goto, KB_goto, KL_goto, KS_goto, KS_ret, KS_normal, KS_exit, k_ret, k_normal, stepE, isCall, calleeE, opE, wantE, odE, odS, odL, odSL, fget, fput, initE, keepF, List.map_cons, List.map_nil, binE, intOp, strOp, shOp, unE, eqpE, eqnE, neqB, ressE, resE, packL, packE, flat1, fcells, fillE, setL, cellsOf_bind, cellsO_own, cellsO_ro, lenE_sl, lenE_nils, lenE_sl0, bound, rep, minE, maxE, Option.getD_some, Option.getD_none, isKey, nlS, List.getElem?_cons_zero, List.getElem?_cons_succ, get_lt, set_lt, get_len, get_len_add, set_len, set_len_add, List.append_assoc, List.cons_append, List.nil_append, -getElem?_pos, ]
  refine WPc.go (wakes_ok _) ?_
  rintro _ h2 ⟨_, rfl⟩
  simp [wpk_skip, wpk_seq, k_cond, wpk_block, wpk_exit, wpk_ret, wpk_goto, wpk_label, wpk_loop, k_ops, k_draw0, t_nil, t_cons, KT_eq, KD_eq, wpo_nil, k_cons, k_step, mt_some, mtk_some, KO_eq, KP_eq, K_normal, K_ret, K_exit, KB_normal, KB_ret, KB_exit, KL_normal, KL_ret, KL_exit, K_goto, KB_goto, KL_goto, KS_goto, KS_ret, KS_normal, KS_exit, k_ret, k_normal, stepE, isCall, calleeE, opE, wantE, odE, odS, odL, odSL, fget, fput, initE, keepF, List.map_cons, List.map_nil, binE, intOp, strOp, shOp, unE, eqpE, eqnE, neqB, ressE, resE, packL, packE, flat1, fcells, fillE, setL, cellsOf_bind, cellsO_own, cellsO_ro, lenE_sl, lenE_nils, lenE_sl0, bound, rep, minE, maxE, Option.getD_some, Option.getD_none, isKey, nlS, List.getElem?_cons_zero, List.getElem?_cons_succ, get_lt, set_lt, get_len, get_len_add, set_len, set_len_add, List.append_assoc, List.cons_append, List.nil_append, -getElem?_pos, ]
  exact hΨ _
set_option maxRecDepth 20000 in
set_option maxHeartbeats 8000000 in
theorem joins_tail {b : Nat} {h : LH} {wa : SV} {A : List Cm} (owa : Ow b h 23 encC wa A) (lA : A.length ≤ 10) (at0 : Int) (xr : Fr) (Ψ : FV → LH → Prop) (hΨ : ∀ h', Ψ (.s (.bool true)) h') :
    WPk C s7_8 ((2, some (.s (.int .i64 at0))) :: (7, some (.s wa)) :: xr) h (KR [.tmp 6] Ψ) := by
  have rA := owa.rd (z := 12) encC_len
  have w1 : IntKind.i64.wrap ((A.length : Int) + 1) = ((A.length + 1 : Nat) : Int) := wrap_small (by omega) (by omega)
  have hw := fun h => within_ok at0 ((A.length + 1 : Nat) : Int) (by omega) h
  have hb := within_64 at0 ((A.length + 1 : Nat) : Int) (by omega)
  obtain ⟨k, hk⟩ : ∃ k : Nat, at0 % ((A.length + 1 : Nat) : Int) = k := ⟨(at0 % ((A.length + 1 : Nat) : Int)).toNat, by omega⟩
  rw [hk] at hw hb
  have hkA : k ≤ A.length := by omega
  have fin := fun (h1 : LH) (v : SV) (r : Rd h1 23 12 encC v (A.take k ++ [zeroC 11] ++ A.drop k)) (xr : Fr) => joins_end r (by simp; omega) (by rw [List.all_append, List.all_append]; simp [nilC]) xr Ψ hΨ
  have z11 : encC (zeroC 11) = [.int .i64 11, .str ⟨#[]⟩, .str ⟨#[]⟩, .str ⟨#[]⟩, .int .i64 0, .int .i64 0, .int .i64 0, .int .i64 0, .int .i64 0, .int .i64 0, .int .i64 0, .int .i64 0] := rfl
  generalize hK : s7_10 = K at *
  rcases owa with ⟨rfl, rfl⟩ | ⟨j, _, rfl, hj⟩
  · obtain rfl : k = 0 := by simpa using hkA
    obtain ⟨_, h1, ec, g1, wc, rfl, owc⟩ := copyC_ok rA (by simp)
    have hA := owc.app1 (y := 120) encC_len (by simp) [.own 23 (encC (zeroC 11))] (encC (zeroC 11))
    obtain ⟨f1, f2⟩ := Ow.step g1 owc (zeroC 11) [.own 23 (encC (zeroC 11))] (n := 1) (cs := encC (zeroC 11)) (m := 1) rfl rfl rfl
    have fin' := fin _ _ (f2.rd (z := 12) encC_len)
    simp only [List.flatMap_nil, List.nil_append, List.length_nil, Nat.zero_add] at hA fin' f1
    generalize hH : kill wc (h1 ++ [LO.own 23 (encC (zeroC 11))]) ++ [LO.own 23 (encC (zeroC 11))] = H at *
    rw [z11] at hA
    have w0 : IntKind.i64.wrap 1 = 1 := by decide
    have hw0 : ∀ h, callX C 18 [.s (.int .i64 at0), .s (.int .i64 1)] h = some (.s (.int .i64 0), h) := hw
    simp [wpk_skip, wpk_seq, k_cond, wpk_block, wpk_exit, wpk_ret, wpk_goto, wpk_label, wpk_loop, k_ops, k_draw0, t_nil, t_cons, KT_eq, KD_eq, wpo_nil, k_cons, k_step, mt_some, mtk_some, KO_eq, KP_eq, K_normal, K_ret, K_exit, KB_normal, KB_ret, KB_exit, KL_normal, KL_ret, KL_exit, K_goto, KB_goto, KL_goto, KS_goto, KS_ret, KS_normal, KS_exit, k_ret, k_normal, stepE, isCall, calleeE, opE, wantE, odE, odS, odL, odSL, fget, fput, initE, keepF, List.map_cons, List.map_nil, binE, intOp, strOp, shOp, unE, eqpE, eqnE, neqB, ressE, resE, packL, packE, flat1, fcells, fillE, setL, cellsOf_bind, cellsO_own, cellsO_ro, lenE_sl, lenE_nils, lenE_sl0, bound, rep, minE, maxE, Option.getD_some, Option.getD_none, isKey, nlS, List.getElem?_cons_zero, List.getElem?_cons_succ, get_lt, set_lt, get_len, get_len_add, set_len, set_len_add, List.append_assoc, List.cons_append, List.nil_append, -getElem?_pos, s7_8, s7_9, hK, hw0, w0]
    refine k_draw ?_
    simp [wpk_skip, wpk_seq, k_cond, wpk_block, wpk_exit, wpk_ret, wpk_goto, wpk_label, wpk_loop, k_ops, k_draw0, t_nil, t_cons, KT_eq, KD_eq, wpo_nil, k_cons, k_step, mt_some, mtk_some, KO_eq, KP_eq, K_normal, K_ret, K_exit, KB_normal, KB_ret, KB_exit, KL_normal, KL_ret, KL_exit, K_goto, KB_goto, KL_goto, KS_goto, KS_ret, KS_normal, KS_exit, k_ret, k_normal, stepE, isCall, calleeE, opE, wantE, odE, odS, odL, odSL, fget, fput, initE, keepF, List.map_cons, List.map_nil, binE, intOp, strOp, shOp, unE, eqpE, eqnE, neqB, ressE, resE, packL, packE, flat1, fcells, fillE, setL, cellsOf_bind, cellsO_own, cellsO_ro, lenE_sl, lenE_nils, lenE_sl0, bound, rep, minE, maxE, Option.getD_some, Option.getD_none, isKey, nlS, List.getElem?_cons_zero, List.getElem?_cons_succ, get_lt, set_lt, get_len, get_len_add, set_len, set_len_add, List.append_assoc, List.cons_append, List.nil_append, slotsG, slotsE, odT, odsT, optT, partsT, okPairs, okPair, changesE, rdAft, rdO, frLt, nmV, nmVL, nmL, nmS, -getElem?_pos, s7_9, hK, ec, hA, elems, appE_zero_sl]
    exact fin' _
  · have hl : j < h.length := lt_of_some hj
    have hlen : (A.take k).length = k := by rw [List.length_take]; omega
    have rT : Rd h 23 12 encC (.sl j 0 0 k) (A.take k) := Rd.take (p' := 0) encC_len rA hkA
    obtain ⟨_, h1, ec, g1, wc, rfl, owc⟩ := copyC_ok rT (by omega)
    have hA := owc.app1 (y := 120) encC_len (by omega) [.own 23 (encC (zeroC 11))] (encC (zeroC 11))
    obtain ⟨f1, f2⟩ := Ow.step g1 owc (zeroC 11) [.own 23 (encC (zeroC 11))] (n := (A.take k).length + 1) (cs := encC (zeroC 11)) (m := 1) rfl rfl rfl
    have j1 := g1.get hj
    have j2 := f1.get hj
    have rD : ∀ p, Rd h 23 12 encC (.sl j p k (A.length - k)) (A.drop k) := by
      intro p
      refine .inr ⟨j, p, k, _, _, by rw [List.length_drop], hj, rfl, ?_, ?_⟩
      · rw [flat_len encC_len, List.length_drop]; omega
      · rw [flat_drop encC_len, List.length_drop, ← List.length_drop, ← flat_len encC_len, List.take_length]
    have rD1 := fun p => (rD p).gr f1
    obtain ⟨x2, h2, e2, g2, ow2⟩ := app_any (y := 120) encC_len f1 f2 (L := A.drop k) (by simp; omega)
    have fin' := fin _ _ (ow2.rd (z := 12) encC_len)
    have l1 : j < h1.length := lt_of_some j1
    rw [hlen] at hA e2
    generalize hH : kill wc (h1 ++ [LO.own 23 (encC (zeroC 11))]) ++ [LO.own 23 ((A.take k).flatMap encC ++ encC (zeroC 11))] = H at *
    rw [z11] at hA
    have rL1 := fun p => (rD1 p).len
    have rE1 := fun p => (rD1 p).elems
    rw [List.length_drop] at e2
    have el1 : elems (h1 ++ [LO.own 23 (encC (zeroC 11))]) 23 12 (.sl h1.length 0 0 1) = some (encC (zeroC 11)) := by
      have := (Rd.lit (p := 0) (l := [zeroC 11]) encC_len (show (h1 ++ [LO.own 23 (encC (zeroC 11))])[h1.length]? = some (.own 23 ([zeroC 11].flatMap encC)) by rw [List.flatMap_singleton]; exact get_len)).elems
      rw [List.flatMap_singleton] at this
      exact this
    rw [z11] at el1
    have hw0 : ∀ h, callX C 18 [.s (.int .i64 at0), .s (.int .i64 ((A.length : Int) + 1))] h = some (.s (.int .i64 k), h) := hw
    simp [wpk_skip, wpk_seq, k_cond, wpk_block, wpk_exit, wpk_ret, wpk_goto, wpk_label, wpk_loop, k_ops, k_draw0, t_nil, t_cons, KT_eq, KD_eq, wpo_nil, k_cons, k_step, mt_some, mtk_some, KO_eq, KP_eq, K_normal, K_ret, K_exit, KB_normal, KB_ret, KB_exit, KL_normal, KL_ret, KL_exit, K_goto, KB_goto, KL_goto, KS_goto, KS_ret, KS_normal, KS_exit, k_ret, k_normal, stepE, isCall, calleeE, opE, wantE, odE, odS, odL, odSL, fget, fput, initE, keepF, List.map_cons, List.map_nil, binE, intOp, strOp, shOp, unE, eqpE, eqnE, neqB, ressE, resE, packL, packE, flat1, fcells, fillE, setL, cellsOf_bind, cellsO_own, cellsO_ro, lenE_sl, lenE_nils, lenE_sl0, bound, rep, minE, maxE, Option.getD_some, Option.getD_none, isKey, nlS, List.getElem?_cons_zero, List.getElem?_cons_succ, get_lt, set_lt, get_len, get_len_add, set_len, set_len_add, List.append_assoc, List.cons_append, List.nil_append, -getElem?_pos, s7_8, s7_9, hK, hw0, w1]
    refine k_draw ?_
    simp [wpk_skip, wpk_seq, k_cond, wpk_block, wpk_exit, wpk_ret, wpk_goto, wpk_label, wpk_loop, k_ops, k_draw0, t_nil, t_cons, KT_eq, KD_eq, wpo_nil, k_cons, k_step, mt_some, mtk_some, KO_eq, KP_eq, K_normal, K_ret, K_exit, KB_normal, KB_ret, KB_exit, KL_normal, KL_ret, KL_exit, K_goto, KB_goto, KL_goto, KS_goto, KS_ret, KS_normal, KS_exit, k_ret, k_normal, stepE, isCall, calleeE, opE, wantE, odE, odS, odL, odSL, fget, fput, initE, keepF, List.map_cons, List.map_nil, binE, intOp, strOp, shOp, unE, eqpE, eqnE, neqB, ressE, resE, packL, packE, flat1, fcells, fillE, setL, cellsOf_bind, cellsO_own, cellsO_ro, lenE_sl, lenE_nils, lenE_sl0, bound, rep, minE, maxE, Option.getD_some, Option.getD_none, isKey, nlS, List.getElem?_cons_zero, List.getElem?_cons_succ, get_lt, set_lt, get_len, get_len_add, set_len, set_len_add, List.append_assoc, List.cons_append, List.nil_append, slotsG, slotsE, odT, odsT, optT, partsT, okPairs, okPair, changesE, rdAft, rdO, frLt, nmV, nmVL, nmL, nmS, -getElem?_pos, s7_9, hK, ec, hA, hj, j1, j2, l1, hkA, rL1, rE1, e2, el1]
    exact fin' _

set_option maxRecDepth 20000 in
set_option maxHeartbeats 8000000 in
theorem wireJoins_ok {h0 : LH} {v0 v1 : SV} {cs ds : List Pc} (r0 : Rd h0 63 5 encP v0 cs) (r1 : Rd h0 63 5 encP v1 ds) (hc : ∀ x ∈ cs, P64 x) (hd : ∀ x ∈ ds, P64 x) (at0 : Int) :
    ∃ h', callX C 7 [.s v0, .s v1, .s (.int .i64 at0)] h0 = some (.s (.bool true), h') ∧ True := by
  suffices w : WPc C 7 [.s v0, .s v1, .s (.int .i64 at0)] h0 fun u _ => u = .s (.bool true) by
    obtain ⟨v, h', e, rfl⟩ := w
    exact ⟨h', e, trivial⟩
  refine WPc.post fun Ψ hΨ => ?_
  refine WPc.intro (e := e7) rfl (by simp [e7]) ?_
  show WPk C b7 _ _ (KR [.tmp 6] _)
  have tk12 : ∀ m : Cm, (encC m).take 12 = encC m := fun _ => rfl
  have cl12 : ∀ m : Cm, (encC m).length = 12 := fun _ => rfl
  have rn : ∀ h : LH, Rd h 23 12 encC .nils [] := fun h => .inl ⟨rfl, .inl rfl⟩
  have ri : ∀ h : LH, Rd h 3 1 encI .nils [] := fun h => .inl ⟨rfl, .inl rfl⟩
  simp [wpk_skip, wpk_seq, k_cond, wpk_block, wpk_exit, wpk_ret, wpk_goto, wpk_label, wpk_loop, k_ops, k_draw0, t_nil, t_cons, KT_eq, KD_eq, wpo_nil, k_cons, k_step, mt_some, mtk_some, KO_eq, KP_eq, K_normal, K_ret, K_exit, KB_normal, KB_ret, KB_exit, KL_normal, KL_ret, KL_exit, K_goto, KB_goto, KL_goto, KS_goto, KS_ret, KS_normal, KS_exit, k_ret, k_normal, stepE, isCall, calleeE, opE, wantE, odE, odS, odL, odSL, fget, fput, initE, keepF, List.map_cons, List.map_nil, binE, intOp, strOp, shOp, unE, eqpE, eqnE, neqB, ressE, resE, packL, packE, flat1, fcells, fillE, setL, cellsOf_bind, cellsO_own, cellsO_ro, lenE_sl, lenE_nils, lenE_sl0, bound, rep, minE, maxE, Option.getD_some, Option.getD_none, isKey, nlS, List.getElem?_cons_zero, List.getElem?_cons_succ, get_lt, set_lt, get_len, get_len_add, set_len, set_len_add, List.append_assoc, List.cons_append, List.nil_append, -getElem?_pos, b7, s7_1, s7_2, s7_3, s7_4, s7_5, s7_6, s7_7]
  refine WPc.go (some_ok r0 (rn h0) (ri h0) hc (by simp)) ?_
  rintro _ h1 ⟨g1, w1, L1, rfl, ow1, h64, hlen⟩
  have rL1 := ow1.rd (z := 12) encC_len
  simp [wpk_skip, wpk_seq, k_cond, wpk_block, wpk_exit, wpk_ret, wpk_goto, wpk_label, wpk_loop, k_ops, k_draw0, t_nil, t_cons, KT_eq, KD_eq, wpo_nil, k_cons, k_step, mt_some, mtk_some, KO_eq, KP_eq, K_normal, K_ret, K_exit, KB_normal, KB_ret, KB_exit, KL_normal, KL_ret, KL_exit, K_goto, KB_goto, KL_goto, KS_goto, KS_ret, KS_normal, KS_exit, k_ret, k_normal, stepE, isCall, calleeE, opE, wantE, odE, odS, odL, odSL, fget, fput, initE, keepF, List.map_cons, List.map_nil, binE, intOp, strOp, shOp, unE, eqpE, eqnE, neqB, ressE, resE, packL, packE, flat1, fcells, fillE, setL, cellsOf_bind, cellsO_own, cellsO_ro, lenE_sl, lenE_nils, lenE_sl0, bound, rep, minE, maxE, Option.getD_some, Option.getD_none, isKey, nlS, List.getElem?_cons_zero, List.getElem?_cons_succ, get_lt, set_lt, get_len, get_len_add, set_len, set_len_add, List.append_assoc, List.cons_append, List.nil_append, -getElem?_pos, rL1.len]
  refine WPl.post (fun x fr' h' => x = .exit 0 ∧ Gr h1 h' ∧ ∃ w, Ow h1.length h' 23 encC w (L1.filter okC) ∧ fr' = [(1, some (.s v1)), (2, some (.s (.int .i64 at0))), (7, some (.s w)), (8, some (.s .nils))]) (fun Φ hΦ => ?_) ?_
  · refine WPl.inv2 (fun n fr h' => Gr h1 h' ∧ ∃ k w, k ≤ L1.length ∧ n = L1.length - k ∧ Ow h1.length h' 23 encC w ((L1.take k).filter okC) ∧ fr = [(1, some (.s v1)), (2, some (.s (.int .i64 at0))), (7, some (.s w)), (8, some (.s .nils)), (29, some (.s w1)), (30, some (.s (.int .i64 L1.length))), (31, some (.s (.int .i64 k)))]) ?_ _ _ _ ⟨Gr.refl _, 0, .nils, Nat.zero_le _, rfl, Ow.nil _ _, by simp⟩
    rintro I hI n fr h' ⟨gr, k, w, hk, rfl, ow, rfl⟩
    refine ⟨by simp [keepF, fget], ?_⟩
    have w3 : IntKind.i64.wrap ((k : Int) + 1) = ((k + 1 : Nat) : Int) := wrap_small (by omega) (by omega)
    by_cases hlt : k < L1.length
    · obtain ⟨i, p, o, ob, vs, rfl, q2, q3, q4, q5, q6⟩ := (rL1.gr gr).at encC_len hlt
      have ht : L1.take (k + 1) = L1.take k ++ [L1[k]] := List.take_succ_eq_append_getElem hlt
      generalize hm : L1[k] = m at *
      have st12 : setL [SV.int .i64 0, SV.str ⟨#[]⟩, SV.str ⟨#[]⟩, SV.str ⟨#[]⟩, SV.int .i64 0, SV.int .i64 0, SV.int .i64 0, SV.int .i64 0, SV.int .i64 0, SV.int .i64 0, SV.int .i64 0, SV.int .i64 0] 0 (encC m) = encC m := rfl
      have hlen' : ((L1.take k).filter okC).length ≤ 10 := Nat.le_trans (List.length_filter_le _ _) (by rw [List.length_take]; omega)
      have rl : Rd (h' ++ [LO.own 23 (encC m), LO.own 23 (encC m)]) 23 12 encC (.sl (h'.length + 1) 0 0 [m].length) [m] := Rd.lit encC_len (by rw [List.flatMap_singleton]; exact get_len_add)
      simp [wpk_skip, wpk_seq, k_cond, wpk_block, wpk_exit, wpk_ret, wpk_goto, wpk_label, wpk_loop, k_ops, k_draw0, t_nil, t_cons, KT_eq, KD_eq, wpo_nil, k_cons, k_step, mt_some, mtk_some, KO_eq, KP_eq, K_normal, K_ret, K_exit, KB_normal, KB_ret, KB_exit, KL_normal, KL_ret, KL_exit, K_goto, KB_goto, KL_goto, KS_goto, KS_ret, KS_normal, KS_exit, k_ret, k_normal, stepE, isCall, calleeE, opE, wantE, odE, odS, odL, odSL, fget, fput, initE, keepF, List.map_cons, List.map_nil, binE, intOp, strOp, shOp, unE, eqpE, eqnE, neqB, ressE, resE, packL, packE, flat1, fcells, fillE, setL, cellsOf_bind, cellsO_own, cellsO_ro, lenE_sl, lenE_nils, lenE_sl0, bound, rep, minE, maxE, Option.getD_some, Option.getD_none, isKey, nlS, List.getElem?_cons_zero, List.getElem?_cons_succ, get_lt, set_lt, get_len, get_len_add, set_len, set_len_add, List.append_assoc, List.cons_append, List.nil_append, -getElem?_pos, l7_0_2, l7_0_1, l7_0, hlt, q2, q3, q4, q5, cl12, tk12, st12]
      cases hok : okC m with
      | false =>
        refine WPc.go (packs_no rl (by simp) (by simp [hok])) ?_
        rintro _ h2 ⟨g2, rfl⟩
        have gg : Gr h1 h2 := gr.trans ((Gr.self h' _).trans g2)
        have hm2 : h2[h'.length]? = some (.own 23 (encC m)) := g2.get get_len
        have ow2 := ow.gr ((Gr.self h' [LO.own 23 (encC m), LO.own 23 (encC m)]).trans g2)
        simp [wpk_skip, wpk_seq, k_cond, wpk_block, wpk_exit, wpk_ret, wpk_goto, wpk_label, wpk_loop, k_ops, k_draw0, t_nil, t_cons, KT_eq, KD_eq, wpo_nil, k_cons, k_step, mt_some, mtk_some, KO_eq, KP_eq, K_normal, K_ret, K_exit, KB_normal, KB_ret, KB_exit, KL_normal, KL_ret, KL_exit, K_goto, KB_goto, KL_goto, KS_goto, KS_ret, KS_normal, KS_exit, k_ret, k_normal, stepE, isCall, calleeE, opE, wantE, odE, odS, odL, odSL, fget, fput, initE, keepF, List.map_cons, List.map_nil, binE, intOp, strOp, shOp, unE, eqpE, eqnE, neqB, ressE, resE, packL, packE, flat1, fcells, fillE, setL, cellsOf_bind, cellsO_own, cellsO_ro, lenE_sl, lenE_nils, lenE_sl0, bound, rep, minE, maxE, Option.getD_some, Option.getD_none, isKey, nlS, List.getElem?_cons_zero, List.getElem?_cons_succ, get_lt, set_lt, get_len, get_len_add, set_len, set_len_add, List.append_assoc, List.cons_append, List.nil_append, -getElem?_pos, w3]
        refine ⟨L1.length - (k + 1), by omega, hI _ _ _ ⟨gg, k + 1, w, hlt, rfl, ?_, rfl⟩⟩
        rw [ht, List.filter_append, List.filter_cons_of_neg (by simp [hok]), List.filter_nil, List.append_nil]; exact ow2
      | true =>
        refine WPc.go (packs_yes rl (by simp) (by simp [hok])) ?_
        rintro _ h2 ⟨g2, w5, rfl, _⟩
        have gg : Gr h1 h2 := gr.trans ((Gr.self h' _).trans g2)
        have hm2 : h2[h'.length]? = some (.own 23 (encC m)) := g2.get get_len
        have ow2 := ow.gr ((Gr.self h' [LO.own 23 (encC m), LO.own 23 (encC m)]).trans g2)
        have hAp := ow2.app1 (z := 12) (y := 120) encC_len (by omega) [.own 23 (encC m)] (encC m)
        obtain ⟨f1, f2⟩ := Ow.step gg ow2 m [.own 23 (encC m)] (n := ((L1.take k).filter okC).length + 1) (cs := encC m) (m := 1) rfl rfl rfl
        simp [wpk_skip, wpk_seq, k_cond, wpk_block, wpk_exit, wpk_ret, wpk_goto, wpk_label, wpk_loop, k_ops, k_draw0, t_nil, t_cons, KT_eq, KD_eq, wpo_nil, k_cons, k_step, mt_some, mtk_some, KO_eq, KP_eq, K_normal, K_ret, K_exit, KB_normal, KB_ret, KB_exit, KL_normal, KL_ret, KL_exit, K_goto, KB_goto, KL_goto, KS_goto, KS_ret, KS_normal, KS_exit, k_ret, k_normal, stepE, isCall, calleeE, opE, wantE, odE, odS, odL, odSL, fget, fput, initE, keepF, List.map_cons, List.map_nil, binE, intOp, strOp, shOp, unE, eqpE, eqnE, neqB, ressE, resE, packL, packE, flat1, fcells, fillE, setL, cellsOf_bind, cellsO_own, cellsO_ro, lenE_sl, lenE_nils, lenE_sl0, bound, rep, minE, maxE, Option.getD_some, Option.getD_none, isKey, nlS, List.getElem?_cons_zero, List.getElem?_cons_succ, get_lt, set_lt, get_len, get_len_add, set_len, set_len_add, List.append_assoc, List.cons_append, List.nil_append, -getElem?_pos, hm2, cl12, tk12, st12, elems, hAp, w3]
        refine ⟨L1.length - (k + 1), by omega, hI _ _ _ ⟨f1, k + 1, _, hlt, rfl, ?_, rfl⟩⟩
        rw [ht, List.filter_append, List.filter_cons_of_pos hok, List.filter_nil]; exact f2
    · obtain rfl : k = L1.length := by omega
      rw [List.take_length] at ow
      simp [wpk_skip, wpk_seq, k_cond, wpk_block, wpk_exit, wpk_ret, wpk_goto, wpk_label, wpk_loop, k_ops, k_draw0, t_nil, t_cons, KT_eq, KD_eq, wpo_nil, k_cons, k_step, mt_some, mtk_some, KO_eq, KP_eq, K_normal, K_ret, K_exit, KB_normal, KB_ret, KB_exit, KL_normal, KL_ret, KL_exit, K_goto, KB_goto, KL_goto, KS_goto, KS_ret, KS_normal, KS_exit, k_ret, k_normal, stepE, isCall, calleeE, opE, wantE, odE, odS, odL, odSL, fget, fput, initE, keepF, List.map_cons, List.map_nil, binE, intOp, strOp, shOp, unE, eqpE, eqnE, neqB, ressE, resE, packL, packE, flat1, fcells, fillE, setL, cellsOf_bind, cellsO_own, cellsO_ro, lenE_sl, lenE_nils, lenE_sl0, bound, rep, minE, maxE, Option.getD_some, Option.getD_none, isKey, nlS, List.getElem?_cons_zero, List.getElem?_cons_succ, get_lt, set_lt, get_len, get_len_add, set_len, set_len_add, List.append_assoc, List.cons_append, List.nil_append, -getElem?_pos, l7_0_2, l7_0_1, l7_0]
      exact hΦ _ _ _ ⟨rfl, gr, w, ow, rfl⟩
  rintro x fr' h2 ⟨rfl, g2, wa, owa, rfl⟩
  simp [wpk_skip, wpk_seq, k_cond, wpk_block, wpk_exit, wpk_ret, wpk_goto, wpk_label, wpk_loop, k_ops, k_draw0, t_nil, t_cons, KT_eq, KD_eq, wpo_nil, k_cons, k_step, mt_some, mtk_some, KO_eq, KP_eq, K_normal, K_ret, K_exit, KB_normal, KB_ret, KB_exit, KL_normal, KL_ret, KL_exit, K_goto, KB_goto, KL_goto, KS_goto, KS_ret, KS_normal, KS_exit, k_ret, k_normal, stepE, isCall, calleeE, opE, wantE, odE, odS, odL, odSL, fget, fput, initE, keepF, List.map_cons, List.map_nil, binE, intOp, strOp, shOp, unE, eqpE, eqnE, neqB, ressE, resE, packL, packE, flat1, fcells, fillE, setL, cellsOf_bind, cellsO_own, cellsO_ro, lenE_sl, lenE_nils, lenE_sl0, bound, rep, minE, maxE, Option.getD_some, Option.getD_none, isKey, nlS, List.getElem?_cons_zero, List.getElem?_cons_succ, get_lt, set_lt, get_len, get_len_add, set_len, set_len_add, List.append_assoc, List.cons_append, List.nil_append, -getElem?_pos, ]
  have G2 := g1.trans g2
  refine WPc.go (some_ok (r1.gr G2) (rn h2) (ri h2) hd (by simp)) ?_
  rintro _ h3 ⟨g3, w2, L2, rfl, ow2, k64, klen⟩
  have rL2 := ow2.rd (z := 12) encC_len
  simp [wpk_skip, wpk_seq, k_cond, wpk_block, wpk_exit, wpk_ret, wpk_goto, wpk_label, wpk_loop, k_ops, k_draw0, t_nil, t_cons, KT_eq, KD_eq, wpo_nil, k_cons, k_step, mt_some, mtk_some, KO_eq, KP_eq, K_normal, K_ret, K_exit, KB_normal, KB_ret, KB_exit, KL_normal, KL_ret, KL_exit, K_goto, KB_goto, KL_goto, KS_goto, KS_ret, KS_normal, KS_exit, k_ret, k_normal, stepE, isCall, calleeE, opE, wantE, odE, odS, odL, odSL, fget, fput, initE, keepF, List.map_cons, List.map_nil, binE, intOp, strOp, shOp, unE, eqpE, eqnE, neqB, ressE, resE, packL, packE, flat1, fcells, fillE, setL, cellsOf_bind, cellsO_own, cellsO_ro, lenE_sl, lenE_nils, lenE_sl0, bound, rep, minE, maxE, Option.getD_some, Option.getD_none, isKey, nlS, List.getElem?_cons_zero, List.getElem?_cons_succ, get_lt, set_lt, get_len, get_len_add, set_len, set_len_add, List.append_assoc, List.cons_append, List.nil_append, -getElem?_pos, rL2.len]
  refine WPl.post (fun x fr' h' => x = .exit 2 ∧ Gr h3 h' ∧ ∃ w, Ow h3.length h' 23 encC w (L2.filter okC) ∧ fr' = [(2, some (.s (.int .i64 at0))), (7, some (.s wa)), (8, some (.s w))]) (fun Φ hΦ => ?_) ?_
  · refine WPl.inv2 (fun n fr h' => Gr h3 h' ∧ ∃ k w, k ≤ L2.length ∧ n = L2.length - k ∧ Ow h3.length h' 23 encC w ((L2.take k).filter okC) ∧ fr = [(2, some (.s (.int .i64 at0))), (7, some (.s wa)), (8, some (.s w)), (49, some (.s w2)), (50, some (.s (.int .i64 L2.length))), (51, some (.s (.int .i64 k)))]) ?_ _ _ _ ⟨Gr.refl _, 0, .nils, Nat.zero_le _, rfl, Ow.nil _ _, by simp⟩
    rintro I hI n fr h' ⟨gr, k, w, hk, rfl, ow, rfl⟩
    refine ⟨by simp [keepF, fget], ?_⟩
    have w3 : IntKind.i64.wrap ((k : Int) + 1) = ((k + 1 : Nat) : Int) := wrap_small (by omega) (by omega)
    by_cases hlt : k < L2.length
    · obtain ⟨i, p, o, ob, vs, rfl, q2, q3, q4, q5, q6⟩ := (rL2.gr gr).at encC_len hlt
      have ht : L2.take (k + 1) = L2.take k ++ [L2[k]] := List.take_succ_eq_append_getElem hlt
      generalize hm : L2[k] = m at *
      have st12 : setL [SV.int .i64 0, SV.str ⟨#[]⟩, SV.str ⟨#[]⟩, SV.str ⟨#[]⟩, SV.int .i64 0, SV.int .i64 0, SV.int .i64 0, SV.int .i64 0, SV.int .i64 0, SV.int .i64 0, SV.int .i64 0, SV.int .i64 0] 0 (encC m) = encC m := rfl
      have hlen' : ((L2.take k).filter okC).length ≤ 10 := Nat.le_trans (List.length_filter_le _ _) (by rw [List.length_take]; omega)
      have rl : Rd (h' ++ [LO.own 23 (encC m), LO.own 23 (encC m)]) 23 12 encC (.sl (h'.length + 1) 0 0 [m].length) [m] := Rd.lit encC_len (by rw [List.flatMap_singleton]; exact get_len_add)
      simp [wpk_skip, wpk_seq, k_cond, wpk_block, wpk_exit, wpk_ret, wpk_goto, wpk_label, wpk_loop, k_ops, k_draw0, t_nil, t_cons, KT_eq, KD_eq, wpo_nil, k_cons, k_step, mt_some, mtk_some, KO_eq, KP_eq, K_normal, K_ret, K_exit, KB_normal, KB_ret, KB_exit, KL_normal, KL_ret, KL_exit, K_goto, KB_goto, KL_goto, KS_goto, KS_ret, KS_normal, KS_exit, k_ret, k_normal, stepE, isCall, calleeE, opE, wantE, odE, odS, odL, odSL, fget, fput, initE, keepF, List.map_cons, List.map_nil, binE, intOp, strOp, shOp, unE, eqpE, eqnE, neqB, ressE, resE, packL, packE, flat1, fcells, fillE, setL, cellsOf_bind, cellsO_own, cellsO_ro, lenE_sl, lenE_nils, lenE_sl0, bound, rep, minE, maxE, Option.getD_some, Option.getD_none, isKey, nlS, List.getElem?_cons_zero, List.getElem?_cons_succ, get_lt, set_lt, get_len, get_len_add, set_len, set_len_add, List.append_assoc, List.cons_append, List.nil_append, -getElem?_pos, l7_1_2, l7_1_1, l7_1, hlt, q2, q3, q4, q5, cl12, tk12, st12]
      cases hok : okC m with
      | false =>
        refine WPc.go (packs_no rl (by simp) (by simp [hok])) ?_
        rintro _ h2 ⟨g2, rfl⟩
        have gg : Gr h3 h2 := gr.trans ((Gr.self h' _).trans g2)
        have hm2 : h2[h'.length]? = some (.own 23 (encC m)) := g2.get get_len
        have ow2 := ow.gr ((Gr.self h' [LO.own 23 (encC m), LO.own 23 (encC m)]).trans g2)
        simp [wpk_skip, wpk_seq, k_cond, wpk_block, wpk_exit, wpk_ret, wpk_goto, wpk_label, wpk_loop, k_ops, k_draw0, t_nil, t_cons, KT_eq, KD_eq, wpo_nil, k_cons, k_step, mt_some, mtk_some, KO_eq, KP_eq, K_normal, K_ret, K_exit, KB_normal, KB_ret, KB_exit, KL_normal, KL_ret, KL_exit, K_goto, KB_goto, KL_goto, KS_goto, KS_ret, KS_normal, KS_exit, k_ret, k_normal, stepE, isCall, calleeE, opE, wantE, odE, odS, odL, odSL, fget, fput, initE, keepF, List.map_cons, List.map_nil, binE, intOp, strOp, shOp, unE, eqpE, eqnE, neqB, ressE, resE, packL, packE, flat1, fcells, fillE, setL, cellsOf_bind, cellsO_own, cellsO_ro, lenE_sl, lenE_nils, lenE_sl0, bound, rep, minE, maxE, Option.getD_some, Option.getD_none, isKey, nlS, List.getElem?_cons_zero, List.getElem?_cons_succ, get_lt, set_lt, get_len, get_len_add, set_len, set_len_add, List.append_assoc, List.cons_append, List.nil_append, -getElem?_pos, w3]
        refine ⟨L2.length - (k + 1), by omega, hI _ _ _ ⟨gg, k + 1, w, hlt, rfl, ?_, rfl⟩⟩
        rw [ht, List.filter_append, List.filter_cons_of_neg (by simp [hok]), List.filter_nil, List.append_nil]; exact ow2
      | true =>
        refine WPc.go (packs_yes rl (by simp) (by simp [hok])) ?_
        rintro _ h2 ⟨g2, w5, rfl, _⟩
        have gg : Gr h3 h2 := gr.trans ((Gr.self h' _).trans g2)
        have hm2 : h2[h'.length]? = some (.own 23 (encC m)) := g2.get get_len
        have ow2 := ow.gr ((Gr.self h' [LO.own 23 (encC m), LO.own 23 (encC m)]).trans g2)
        have hAp := ow2.app1 (z := 12) (y := 120) encC_len (by omega) [.own 23 (encC m)] (encC m)
        obtain ⟨f1, f2⟩ := Ow.step gg ow2 m [.own 23 (encC m)] (n := ((L2.take k).filter okC).length + 1) (cs := encC m) (m := 1) rfl rfl rfl
        simp [wpk_skip, wpk_seq, k_cond, wpk_block, wpk_exit, wpk_ret, wpk_goto, wpk_label, wpk_loop, k_ops, k_draw0, t_nil, t_cons, KT_eq, KD_eq, wpo_nil, k_cons, k_step, mt_some, mtk_some, KO_eq, KP_eq, K_normal, K_ret, K_exit, KB_normal, KB_ret, KB_exit, KL_normal, KL_ret, KL_exit, K_goto, KB_goto, KL_goto, KS_goto, KS_ret, KS_normal, KS_exit, k_ret, k_normal, stepE, isCall, calleeE, opE, wantE, odE, odS, odL, odSL, fget, fput, initE, keepF, List.map_cons, List.map_nil, binE, intOp, strOp, shOp, unE, eqpE, eqnE, neqB, ressE, resE, packL, packE, flat1, fcells, fillE, setL, cellsOf_bind, cellsO_own, cellsO_ro, lenE_sl, lenE_nils, lenE_sl0, bound, rep, minE, maxE, Option.getD_some, Option.getD_none, isKey, nlS, List.getElem?_cons_zero, List.getElem?_cons_succ, get_lt, set_lt, get_len, get_len_add, set_len, set_len_add, List.append_assoc, List.cons_append, List.nil_append, -getElem?_pos, hm2, cl12, tk12, st12, elems, hAp, w3]
        refine ⟨L2.length - (k + 1), by omega, hI _ _ _ ⟨f1, k + 1, _, hlt, rfl, ?_, rfl⟩⟩
        rw [ht, List.filter_append, List.filter_cons_of_pos hok, List.filter_nil]; exact f2
    · obtain rfl : k = L2.length := by omega
      rw [List.take_length] at ow
      simp [wpk_skip, wpk_seq, k_cond, wpk_block, wpk_exit, wpk_ret, wpk_goto, wpk_label, wpk_loop, k_ops, k_draw0, t_nil, t_cons, KT_eq, KD_eq, wpo_nil, k_cons, k_step, mt_some, mtk_some, KO_eq, KP_eq, K_normal, K_ret, K_exit, KB_normal, KB_ret, KB_exit, KL_normal, KL_ret, KL_exit, K_goto, KB_goto, KL_goto, KS_goto, KS_ret, KS_normal, KS_exit, k_ret, k_normal, stepE, isCall, calleeE, opE, wantE, odE, odS, odL, odSL, fget, fput, initE, keepF, List.map_cons, List.map_nil, binE, intOp, strOp, shOp, unE, eqpE, eqnE, neqB, ressE, resE, packL, packE, flat1, fcells, fillE, setL, cellsOf_bind, cellsO_own, cellsO_ro, lenE_sl, lenE_nils, lenE_sl0, bound, rep, minE, maxE, Option.getD_some, Option.getD_none, isKey, nlS, List.getElem?_cons_zero, List.getElem?_cons_succ, get_lt, set_lt, get_len, get_len_add, set_len, set_len_add, List.append_assoc, List.cons_append, List.nil_append, -getElem?_pos, l7_1_2, l7_1_1, l7_1]
      exact hΦ _ _ _ ⟨rfl, gr, w, ow, rfl⟩
  rintro x fr' h4 ⟨rfl, g4, wb, owb, rfl⟩
  have oA : ∀ m ∈ L1.filter okC, okC m = true ∧ M64 m := fun m hm => ⟨(List.mem_filter.1 hm).2, (h64 m (List.mem_filter.1 hm).1).m⟩
  have oB : ∀ m ∈ L2.filter okC, okC m = true ∧ M64 m := fun m hm => ⟨(List.mem_filter.1 hm).2, (k64 m (List.mem_filter.1 hm).1).m⟩
  have lA : (L1.filter okC).length ≤ 10 := Nat.le_trans (List.length_filter_le _ _) hlen
  have lB : (L2.filter okC).length ≤ 10 := Nat.le_trans (List.length_filter_le _ _) klen
  generalize L1.filter okC = A at *
  generalize L2.filter okC = B at *
  have aA : A.all okC = true := List.all_eq_true.2 fun m hm => (oA m hm).1
  have aB : B.all okC = true := List.all_eq_true.2 fun m hm => (oB m hm).1
  have G4 : Gr h2 h4 := g3.trans g4
  have rA := (owa.rd (z := 12) encC_len).gr G4
  have rB := owb.rd (z := 12) encC_len
  simp [wpk_skip, wpk_seq, k_cond, wpk_block, wpk_exit, wpk_ret, wpk_goto, wpk_label, wpk_loop, k_ops, k_draw0, t_nil, t_cons, KT_eq, KD_eq, wpo_nil, k_cons, k_step, mt_some, mtk_some, KO_eq, KP_eq, K_normal, K_ret, K_exit, KB_normal, KB_ret, KB_exit, KL_normal, KL_ret, KL_exit, K_goto, KB_goto, KL_goto, KS_goto, KS_ret, KS_normal, KS_exit, k_ret, k_normal, stepE, isCall, calleeE, opE, wantE, odE, odS, odL, odSL, fget, fput, initE, keepF, List.map_cons, List.map_nil, binE, intOp, strOp, shOp, unE, eqpE, eqnE, neqB, ressE, resE, packL, packE, flat1, fcells, fillE, setL, cellsOf_bind, cellsO_own, cellsO_ro, lenE_sl, lenE_nils, lenE_sl0, bound, rep, minE, maxE, Option.getD_some, Option.getD_none, isKey, nlS, List.getElem?_cons_zero, List.getElem?_cons_succ, get_lt, set_lt, get_len, get_len_add, set_len, set_len_add, List.append_assoc, List.cons_append, List.nil_append, -getElem?_pos, ]
  refine WPc.go (packs_yes rA (by omega) aA) ?_
  rintro _ h5 ⟨g5, wx, rfl, owx⟩
  have px := packs_len A (fun m hm => (oA m hm).1)
  have py := packs_len B (fun m hm => (oB m hm).1)
  obtain ⟨X, hX⟩ : ∃ X, X = A.flatMap packC := ⟨_, rfl⟩
  obtain ⟨Y, hY⟩ : ∃ Y, Y = B.flatMap packC := ⟨_, rfl⟩
  rw [← hX] at owx px
  rw [← hY] at py
  simp [wpk_skip, wpk_seq, k_cond, wpk_block, wpk_exit, wpk_ret, wpk_goto, wpk_label, wpk_loop, k_ops, k_draw0, t_nil, t_cons, KT_eq, KD_eq, wpo_nil, k_cons, k_step, mt_some, mtk_some, KO_eq, KP_eq, K_normal, K_ret, K_exit, KB_normal, KB_ret, KB_exit, KL_normal, KL_ret, KL_exit, K_goto, KB_goto, KL_goto, KS_goto, KS_ret, KS_normal, KS_exit, k_ret, k_normal, stepE, isCall, calleeE, opE, wantE, odE, odS, odL, odSL, fget, fput, initE, keepF, List.map_cons, List.map_nil, binE, intOp, strOp, shOp, unE, eqpE, eqnE, neqB, ressE, resE, packL, packE, flat1, fcells, fillE, setL, cellsOf_bind, cellsO_own, cellsO_ro, lenE_sl, lenE_nils, lenE_sl0, bound, rep, minE, maxE, Option.getD_some, Option.getD_none, isKey, nlS, List.getElem?_cons_zero, List.getElem?_cons_succ, get_lt, set_lt, get_len, get_len_add, set_len, set_len_add, List.append_assoc, List.cons_append, List.nil_append, -getElem?_pos, ]
  refine WPc.go (packs_yes (rB.gr g5) (by omega) aB) ?_
  rintro _ h6 ⟨g6, wy, rfl, owy⟩
  rw [← hY] at owy
  have rx := (owx.rd (z := 1) encB_len).gr g6
  simp [wpk_skip, wpk_seq, k_cond, wpk_block, wpk_exit, wpk_ret, wpk_goto, wpk_label, wpk_loop, k_ops, k_draw0, t_nil, t_cons, KT_eq, KD_eq, wpo_nil, k_cons, k_step, mt_some, mtk_some, KO_eq, KP_eq, K_normal, K_ret, K_exit, KB_normal, KB_ret, KB_exit, KL_normal, KL_ret, KL_exit, K_goto, KB_goto, KL_goto, KS_goto, KS_ret, KS_normal, KS_exit, k_ret, k_normal, stepE, isCall, calleeE, opE, wantE, odE, odS, odL, odSL, fget, fput, initE, keepF, List.map_cons, List.map_nil, binE, intOp, strOp, shOp, unE, eqpE, eqnE, neqB, ressE, resE, packL, packE, flat1, fcells, fillE, setL, cellsOf_bind, cellsO_own, cellsO_ro, lenE_sl, lenE_nils, lenE_sl0, bound, rep, minE, maxE, Option.getD_some, Option.getD_none, isKey, nlS, List.getElem?_cons_zero, List.getElem?_cons_succ, get_lt, set_lt, get_len, get_len_add, set_len, set_len_add, List.append_assoc, List.cons_append, List.nil_append, -getElem?_pos, ]
  refine WPc.go (copyB_ok rx (by omega)) ?_
  rintro _ h7 ⟨g7, wc, rfl, owc⟩
  have ry := (owy.rd (z := 1) encB_len).gr g7
  obtain ⟨xx, h8, hap, g8, ow8⟩ := app_any (y := 1) encB_len g7 owc (L := Y) (by omega)
  have hb : isB (X ++ Y) := by rw [hX, hY]; exact isB_app (isB_packs fun m hm => (oA m hm).1) (isB_packs fun m hm => (oB m hm).1)
  have r8 := ow8.rd (z := 1) encB_len
  have s8 : ∀ j p o, xx ≠ .sl0 j p o := by
    intro j p o
    rcases ow8 with ⟨_, rfl⟩ | ⟨_, _, rfl, _⟩ <;> (intro e; cases e)
  have oAB : ∀ m ∈ A ++ B, okC m = true ∧ M64 m := fun m hm => (List.mem_append.1 hm).elim (oA m) (oB m)
  have un := unpack_ok r8 s8 hb (by rw [List.length_append]; omega)
  have eXY : X ++ Y = (A ++ B).flatMap packC := by rw [hX, hY, List.flatMap_append]
  rw [eXY, unpack_all oAB] at un
  simp [wpk_skip, wpk_seq, k_cond, wpk_block, wpk_exit, wpk_ret, wpk_goto, wpk_label, wpk_loop, k_ops, k_draw0, t_nil, t_cons, KT_eq, KD_eq, wpo_nil, k_cons, k_step, mt_some, mtk_some, KO_eq, KP_eq, K_normal, K_ret, K_exit, KB_normal, KB_ret, KB_exit, KL_normal, KL_ret, KL_exit, K_goto, KB_goto, KL_goto, KS_goto, KS_ret, KS_normal, KS_exit, k_ret, k_normal, stepE, isCall, calleeE, opE, wantE, odE, odS, odL, odSL, fget, fput, initE, keepF, List.map_cons, List.map_nil, binE, intOp, strOp, shOp, unE, eqpE, eqnE, neqB, ressE, resE, packL, packE, flat1, fcells, fillE, setL, cellsOf_bind, cellsO_own, cellsO_ro, lenE_sl, lenE_nils, lenE_sl0, bound, rep, minE, maxE, Option.getD_some, Option.getD_none, isKey, nlS, List.getElem?_cons_zero, List.getElem?_cons_succ, get_lt, set_lt, get_len, get_len_add, set_len, set_len_add, List.append_assoc, List.cons_append, List.nil_append, -getElem?_pos, ry.len, ry.elems, hap]
  refine WPc.go un ?_
  rintro _ h9 ⟨g9, wl, rfl, owl⟩
  have rl := owl.rd (z := 12) encC_len
  have rA9 := (((rA.gr g5).gr g6).gr g8).gr g9
  have rB9 := (((rB.gr g5).gr g6).gr g8).gr g9
  simp [wpk_skip, wpk_seq, k_cond, wpk_block, wpk_exit, wpk_ret, wpk_goto, wpk_label, wpk_loop, k_ops, k_draw0, t_nil, t_cons, KT_eq, KD_eq, wpo_nil, k_cons, k_step, mt_some, mtk_some, KO_eq, KP_eq, K_normal, K_ret, K_exit, KB_normal, KB_ret, KB_exit, KL_normal, KL_ret, KL_exit, K_goto, KB_goto, KL_goto, KS_goto, KS_ret, KS_normal, KS_exit, k_ret, k_normal, stepE, isCall, calleeE, opE, wantE, odE, odS, odL, odSL, fget, fput, initE, keepF, List.map_cons, List.map_nil, binE, intOp, strOp, shOp, unE, eqpE, eqnE, neqB, ressE, resE, packL, packE, flat1, fcells, fillE, setL, cellsOf_bind, cellsO_own, cellsO_ro, lenE_sl, lenE_nils, lenE_sl0, bound, rep, minE, maxE, Option.getD_some, Option.getD_none, isKey, nlS, List.getElem?_cons_zero, List.getElem?_cons_succ, get_lt, set_lt, get_len, get_len_add, set_len, set_len_add, List.append_assoc, List.cons_append, List.nil_append, -getElem?_pos, ]
  refine WPc.go (copyC_ok rA9 (by omega)) ?_
  rintro _ h10 ⟨g10, wd, rfl, owd⟩
  obtain ⟨xd, h11, hap2, g11, ow11⟩ := app_any (y := 120) encC_len g10 owd (L := B) (by omega)
  have rB10 := rB9.gr g10
  have sm := sameC_ok (rl.gr g11) (ow11.rd (z := 12) encC_len) (by rw [List.length_append]; omega)
  simp only [decide_true] at sm
  simp [wpk_skip, wpk_seq, k_cond, wpk_block, wpk_exit, wpk_ret, wpk_goto, wpk_label, wpk_loop, k_ops, k_draw0, t_nil, t_cons, KT_eq, KD_eq, wpo_nil, k_cons, k_step, mt_some, mtk_some, KO_eq, KP_eq, K_normal, K_ret, K_exit, KB_normal, KB_ret, KB_exit, KL_normal, KL_ret, KL_exit, K_goto, KB_goto, KL_goto, KS_goto, KS_ret, KS_normal, KS_exit, k_ret, k_normal, stepE, isCall, calleeE, opE, wantE, odE, odS, odL, odSL, fget, fput, initE, keepF, List.map_cons, List.map_nil, binE, intOp, strOp, shOp, unE, eqpE, eqnE, neqB, ressE, resE, packL, packE, flat1, fcells, fillE, setL, cellsOf_bind, cellsO_own, cellsO_ro, lenE_sl, lenE_nils, lenE_sl0, bound, rep, minE, maxE, Option.getD_some, Option.getD_none, isKey, nlS, List.getElem?_cons_zero, List.getElem?_cons_succ, get_lt, set_lt, get_len, get_len_add, set_len, set_len_add, List.append_assoc, List.cons_append, List.nil_append, -getElem?_pos, rB10.len, rB10.elems, hap2, sm]
  have GA : Gr h4 h11 := ((((g5.trans g6).trans g8).trans g9).trans g11)
  exact joins_tail (((owa.gr G4).gr (((g5.trans g6).trans g8).trans (g9.trans g11)))) lA at0 _ Ψ (fun h' => hΨ _ _ rfl)
theorem wireJoins_row {h0 : LH} {v0 v1 : SV} {cs ds : List Pc} (i0 : RowA h0 63 encP v0 cs) (i1 : RowA h0 63 encP v1 ds) (a2 : Int) (z0 : ∀ x ∈ cs, goodP x) (z1 : ∀ x ∈ ds, goodP x) (w2 : is64 a2) :
    ∃ h', callX C 7 [.s v0, .s v1, .s (.int .i64 a2)] h0 = some (.s (.bool true), h') ∧ True :=
  wireJoins_ok (i0.rd encP_len) (i1.rd encP_len) (fun x hx => goodP_64 (z0 x hx)) (fun x hx => goodP_64 (z1 x hx)) a2
end Go.Proofs.YtbgfcgmbihhlbaaDoor.Ev.CW
