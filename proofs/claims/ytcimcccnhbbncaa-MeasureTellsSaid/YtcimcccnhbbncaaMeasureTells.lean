/- MeasureTells on the small machine. -/
import Derived.Test.YtcimcccnhbbncaaMsU
import Derived.Test.YtcimcccnhbbncaaEvRow
set_option linter.unusedSimpArgs false
set_option linter.unusedVariables false
namespace Go.Proofs.Ytcimcccnhbbncaa.Ev.CE
open Go


theorem ratesGo_len (l : List Ro) (j : ByteArray) (p : Int) : ∀ (bs : List Bu) (acc : List Int), (ratesGo l j p acc bs).1.length ≤ acc.length + bs.length
  | [], acc => by rw [ratesGo_nil]; simp
  | b :: bs, acc => by
    rw [ratesGo_cons]
    split
    · simp
    · rename_i x hx
      have := ratesGo_len l j p bs (acc ++ [x.r])
      refine Nat.le_trans this ?_
      simp; omega
theorem ratesF_len (l : List Ro) (j : ByteArray) (bs : List Bu) (p : Int) : (ratesF l j bs p).1.length ≤ bs.length := by
  unfold ratesF
  split
  · have := ratesGo_len l j p bs []
    simpa using this
  · simp

set_option maxRecDepth 20000 in
set_option maxHeartbeats 8000000 in
theorem measureTells_ok {h0 : LH} {tv bv rv : SV} {ts bs rates : List Int} (ht : IntA h0 3 tv ts) (hb : IntA h0 3 bv bs) (hr : IntA h0 3 rv rates) (at0 left0 r0 how : Int)
    (zt : ∀ z ∈ ts, (Lit.int .i64 z).wf = true) (zb : ∀ z ∈ bs, (Lit.int .i64 z).wf = true) (zr : ∀ z ∈ rates, (Lit.int .i64 z).wf = true) (w1 : is64 at0) (w2 : is64 left0) (w3 : is64 r0) (w4 : is64 how) :
    ∃ h', callX C 7 [.s tv, .s bv, .s rv, .s (.int .i64 at0), .s (.int .i64 left0), .s (.int .i64 r0), .s (.int .i64 how)] h0 = some (.s (.bool true), h') ∧ True := by
  suffices w : WPc C 7 [.s tv, .s bv, .s rv, .s (.int .i64 at0), .s (.int .i64 left0), .s (.int .i64 r0), .s (.int .i64 how)] h0 fun u _ => u = .s (.bool true) by
    obtain ⟨v, h', e, rfl⟩ := w
    exact ⟨h', e, trivial⟩
  refine WPc.post fun Ψ hΨ => ?_
  refine WPc.intro (e := e7) rfl (by simp [e7]) ?_
  show WPk C b7 _ _ (KR [.tmp 14] _)
  simp [wpk_skip, wpk_seq, k_cond, wpk_block, wpk_exit, wpk_ret, wpk_loop, k_ops, k_draw0, t_nil, t_cons, KT_eq, KD_eq, wpo_nil, k_cons, k_step, mt_some, mtk_some, KO_eq, KP_eq, K_normal, K_ret, K_exit, KB_normal, KB_ret, KB_exit, KL_normal, KL_ret, KL_exit, k_ret, k_normal, stepE, isCall, calleeE, opE, wantE, odE, odS, odL, odSL, fget, fput, initE, keepF, List.map_cons, List.map_nil, binE, intOp, strOp, shOp, unE, eqpE, eqnE, neqB, ressE, resE, packL, packE, flat1, fcells, fillE, setL, cellsOf_bind, cellsO_own, cellsO_ro, lenE_sl, lenE_nils, lenE_sl0, bound, rep, minE, maxE, List.getElem?_cons_zero, List.getElem?_cons_succ, get_lt, set_lt, get_len, get_len_add, set_len, set_len_add, List.append_assoc, List.cons_append, List.nil_append, -getElem?_pos, b7, s7_1]
  refine WPc.go (table_ok ht.rd fun z hz => lit_64 (zt z hz)) ?_
  rintro _ H1 ⟨g1, i1, v1, l, rfl, t1, hv⟩
  simp [wpk_skip, wpk_seq, k_cond, wpk_block, wpk_exit, wpk_ret, wpk_loop, k_ops, k_draw0, t_nil, t_cons, KT_eq, KD_eq, wpo_nil, k_cons, k_step, mt_some, mtk_some, KO_eq, KP_eq, K_normal, K_ret, K_exit, KB_normal, KB_ret, KB_exit, KL_normal, KL_ret, KL_exit, k_ret, k_normal, stepE, isCall, calleeE, opE, wantE, odE, odS, odL, odSL, fget, fput, initE, keepF, List.map_cons, List.map_nil, binE, intOp, strOp, shOp, unE, eqpE, eqnE, neqB, ressE, resE, packL, packE, flat1, fcells, fillE, setL, cellsOf_bind, cellsO_own, cellsO_ro, lenE_sl, lenE_nils, lenE_sl0, bound, rep, minE, maxE, List.getElem?_cons_zero, List.getElem?_cons_succ, get_lt, set_lt, get_len, get_len_add, set_len, set_len_add, List.append_assoc, List.cons_append, List.nil_append, -getElem?_pos, s7_2]
  refine WPc.go (of23_ok t1.obj (t1.rows.rd encR_len) hv) ?_
  rintro _ H2 ⟨g2, i2, v2, rfl, t2⟩
  have t1' := t1.gr g2
  have g02 := g1.trans g2
  simp [wpk_skip, wpk_seq, k_cond, wpk_block, wpk_exit, wpk_ret, wpk_loop, k_ops, k_draw0, t_nil, t_cons, KT_eq, KD_eq, wpo_nil, k_cons, k_step, mt_some, mtk_some, KO_eq, KP_eq, K_normal, K_ret, K_exit, KB_normal, KB_ret, KB_exit, KL_normal, KL_ret, KL_exit, k_ret, k_normal, stepE, isCall, calleeE, opE, wantE, odE, odS, odL, odSL, fget, fput, initE, keepF, List.map_cons, List.map_nil, binE, intOp, strOp, shOp, unE, eqpE, eqnE, neqB, ressE, resE, packL, packE, flat1, fcells, fillE, setL, cellsOf_bind, cellsO_own, cellsO_ro, lenE_sl, lenE_nils, lenE_sl0, bound, rep, minE, maxE, List.getElem?_cons_zero, List.getElem?_cons_succ, get_lt, set_lt, get_len, get_len_add, set_len, set_len_add, List.append_assoc, List.cons_append, List.nil_append, -getElem?_pos, s7_3, s7_4]
  refine WPc.go (register13_ok (hb.rd.gr g02) fun z hz' => lit_64 (zb z hz')) ?_
  rintro _ H3 ⟨g3, i3, w, rows, rfl, hge, hi3, ow, gd⟩
  have li3 := lt_of_some hi3
  have lrows := gd.len
  -- the part behind the changes
  have rest7 : ∀ (X : Fr) (H4 : LH) (rows2 : List Bu) (p : Int), Gr H2 H4 → Ow H2.length H4 30 encB w rows2 → rows2.length ≤ 12 →
      WPk C s7_7 ([(2, some (.s rv)), (3, some (.s (.int .i64 p))), (4, some (.s (.int .i64 left0))), (5, some (.s (.int .i64 r0))), (6, some (.s (.int .i64 how))), (15, some (.s (.ptr i1 0))), (16, some (.s (.ptr i2 0))), (17, some (.s w))] ++ X) H4 (KR [ER.tmp 14] Ψ) := by
    intro X H4 rows2 p g4 oR l12
    have y2 := fun h => within_ok how 9 (by omega) h
    have y0 : 0 ≤ how % 9 ∧ how % 9 < 9 := by omega
    have e0 : (how % 9).tmod 3 = (how % 9) % 3 := Int.tmod_eq_emod_of_nonneg y0.1
    obtain ⟨z, hz⟩ : ∃ z : Nat, (how % 9) % 3 = z := ⟨((how % 9) % 3).toNat, by omega⟩
    rw [hz] at e0
    have z3 : z < 3 := by omega
    have z3' : z + 1 ≤ 3 := by omega
    have z3i : (z : Int) < 3 := by omega
    obtain ⟨J, hJ⟩ : ∃ J, ([.str ⟨#[117, 107]⟩, .str ⟨#[100, 101]⟩, .str ⟨#[102, 114]⟩] : List SV)[z]? = some (.str J) := by
      have : z = 0 ∨ z = 1 ∨ z = 2 := by omega
      rcases this with rfl | rfl | rfl <;> exact ⟨_, rfl⟩
    simp [wpk_skip, wpk_seq, k_cond, wpk_block, wpk_exit, wpk_ret, wpk_loop, k_ops, k_draw0, t_nil, t_cons, KT_eq, KD_eq, wpo_nil, k_cons, k_step, mt_some, mtk_some, KO_eq, KP_eq, K_normal, K_ret, K_exit, KB_normal, KB_ret, KB_exit, KL_normal, KL_ret, KL_exit, k_ret, k_normal, stepE, isCall, calleeE, opE, wantE, odE, odS, odL, odSL, fget, fput, initE, keepF, List.map_cons, List.map_nil, binE, intOp, strOp, shOp, unE, eqpE, eqnE, neqB, ressE, resE, packL, packE, flat1, fcells, fillE, setL, cellsOf_bind, cellsO_own, cellsO_ro, lenE_sl, lenE_nils, lenE_sl0, bound, rep, minE, maxE, List.getElem?_cons_zero, List.getElem?_cons_succ, get_lt, set_lt, get_len, get_len_add, set_len, set_len_add, List.append_assoc, List.cons_append, List.nil_append, -getElem?_pos, s7_7, s7_8, y2, e0, z3, z3', z3i, hJ]
    have g5 := Gr.self H4 [LO.own 9 [.str ⟨#[117, 107]⟩, .str ⟨#[100, 101]⟩, .str ⟨#[102, 114]⟩]]
    generalize H4 ++ [LO.own 9 [SV.str ⟨#[117, 107]⟩, .str ⟨#[100, 101]⟩, .str ⟨#[102, 114]⟩]] = H5 at *
    have o5 := oR.gr g5
    have g25 := g4.trans g5
    refine WPc.go (rates_ok (t2.gr g25) J (o5.rd encB_len) (by omega) p) ?_
    rintro _ H6 ⟨g6, w6, rfl, rd6⟩
    have g26 := g25.trans g6
    have o6 := o5.gr g6
    simp [wpk_skip, wpk_seq, k_cond, wpk_block, wpk_exit, wpk_ret, wpk_loop, k_ops, k_draw0, t_nil, t_cons, KT_eq, KD_eq, wpo_nil, k_cons, k_step, mt_some, mtk_some, KO_eq, KP_eq, K_normal, K_ret, K_exit, KB_normal, KB_ret, KB_exit, KL_normal, KL_ret, KL_exit, k_ret, k_normal, stepE, isCall, calleeE, opE, wantE, odE, odS, odL, odSL, fget, fput, initE, keepF, List.map_cons, List.map_nil, binE, intOp, strOp, shOp, unE, eqpE, eqnE, neqB, ressE, resE, packL, packE, flat1, fcells, fillE, setL, cellsOf_bind, cellsO_own, cellsO_ro, lenE_sl, lenE_nils, lenE_sl0, bound, rep, minE, maxE, List.getElem?_cons_zero, List.getElem?_cons_succ, get_lt, set_lt, get_len, get_len_add, set_len, set_len_add, List.append_assoc, List.cons_append, List.nil_append, -getElem?_pos, s7_9]
    refine WPc.go (rrates_ok (t1'.gr g26) J (o6.rd encB_len) (by omega) p) ?_
    rintro _ H7 ⟨g7, w7, rfl, rd7⟩
    have g27 := g26.trans g7
    have o7 := o6.gr g7
    have lF := ratesF_len l J rows2 p
    have s1 := same_ok (rd6.gr g7) rd7 (by omega)
    simp [wpk_skip, wpk_seq, k_cond, wpk_block, wpk_exit, wpk_ret, wpk_loop, k_ops, k_draw0, t_nil, t_cons, KT_eq, KD_eq, wpo_nil, k_cons, k_step, mt_some, mtk_some, KO_eq, KP_eq, K_normal, K_ret, K_exit, KB_normal, KB_ret, KB_exit, KL_normal, KL_ret, KL_exit, k_ret, k_normal, stepE, isCall, calleeE, opE, wantE, odE, odS, odL, odSL, fget, fput, initE, keepF, List.map_cons, List.map_nil, binE, intOp, strOp, shOp, unE, eqpE, eqnE, neqB, ressE, resE, packL, packE, flat1, fcells, fillE, setL, cellsOf_bind, cellsO_own, cellsO_ro, lenE_sl, lenE_nils, lenE_sl0, bound, rep, minE, maxE, List.getElem?_cons_zero, List.getElem?_cons_succ, get_lt, set_lt, get_len, get_len_add, set_len, set_len_add, List.append_assoc, List.cons_append, List.nil_append, -getElem?_pos, s7_10, s1]
    simp [wpk_skip, wpk_seq, k_cond, wpk_block, wpk_exit, wpk_ret, wpk_loop, k_ops, k_draw0, t_nil, t_cons, KT_eq, KD_eq, wpo_nil, k_cons, k_step, mt_some, mtk_some, KO_eq, KP_eq, K_normal, K_ret, K_exit, KB_normal, KB_ret, KB_exit, KL_normal, KL_ret, KL_exit, k_ret, k_normal, stepE, isCall, calleeE, opE, wantE, odE, odS, odL, odSL, fget, fput, initE, keepF, List.map_cons, List.map_nil, binE, intOp, strOp, shOp, unE, eqpE, eqnE, neqB, ressE, resE, packL, packE, flat1, fcells, fillE, setL, cellsOf_bind, cellsO_own, cellsO_ro, lenE_sl, lenE_nils, lenE_sl0, bound, rep, minE, maxE, List.getElem?_cons_zero, List.getElem?_cons_succ, get_lt, set_lt, get_len, get_len_add, set_len, set_len_add, List.append_assoc, List.cons_append, List.nil_append, -getElem?_pos, s7_11]
    refine WPc.go (next_ok (t2.gr g27) J p) ?_
    rintro _ H8 ⟨g8, rfl⟩
    simp [wpk_skip, wpk_seq, k_cond, wpk_block, wpk_exit, wpk_ret, wpk_loop, k_ops, k_draw0, t_nil, t_cons, KT_eq, KD_eq, wpo_nil, k_cons, k_step, mt_some, mtk_some, KO_eq, KP_eq, K_normal, K_ret, K_exit, KB_normal, KB_ret, KB_exit, KL_normal, KL_ret, KL_exit, k_ret, k_normal, stepE, isCall, calleeE, opE, wantE, odE, odS, odL, odSL, fget, fput, initE, keepF, List.map_cons, List.map_nil, binE, intOp, strOp, shOp, unE, eqpE, eqnE, neqB, ressE, resE, packL, packE, flat1, fcells, fillE, setL, cellsOf_bind, cellsO_own, cellsO_ro, lenE_sl, lenE_nils, lenE_sl0, bound, rep, minE, maxE, List.getElem?_cons_zero, List.getElem?_cons_succ, get_lt, set_lt, get_len, get_len_add, set_len, set_len_add, List.append_assoc, List.cons_append, List.nil_append, -getElem?_pos, s7_12]
    refine WPc.go (rnext_ok (t1'.gr (g27.trans g8)) J p) ?_
    rintro _ H9 ⟨g9, rfl⟩
    have g29 := (g27.trans g8).trans g9
    have o9 := o7.gr (g8.trans g9)
    simp [wpk_skip, wpk_seq, k_cond, wpk_block, wpk_exit, wpk_ret, wpk_loop, k_ops, k_draw0, t_nil, t_cons, KT_eq, KD_eq, wpo_nil, k_cons, k_step, mt_some, mtk_some, KO_eq, KP_eq, K_normal, K_ret, K_exit, KB_normal, KB_ret, KB_exit, KL_normal, KL_ret, KL_exit, k_ret, k_normal, stepE, isCall, calleeE, opE, wantE, odE, odS, odL, odSL, fget, fput, initE, keepF, List.map_cons, List.map_nil, binE, intOp, strOp, shOp, unE, eqpE, eqnE, neqB, ressE, resE, packL, packE, flat1, fcells, fillE, setL, cellsOf_bind, cellsO_own, cellsO_ro, lenE_sl, lenE_nils, lenE_sl0, bound, rep, minE, maxE, List.getElem?_cons_zero, List.getElem?_cons_succ, get_lt, set_lt, get_len, get_len_add, set_len, set_len_add, List.append_assoc, List.cons_append, List.nil_append, -getElem?_pos, s7_13, s7_14]
    obtain ⟨nr, hnr⟩ : ∃ x, x = nextF l J p := ⟨_, rfl⟩
    rw [← hnr]
    refine WPl.post (fun x fr' h' => x = .exit 0 ∧ ∃ (v27 : SV) (R : List Int), fr' = [(4, some (.s (.int .i64 left0))), (5, some (.s (.int .i64 r0))), (17, some (.s w)), (23, some (.s (.int .i64 nr.1))), (24, some (.s (.int .i64 nr.2))), (25, some (.s (.int .i64 nr.1))), (26, some (.s (.int .i64 nr.2))), (27, some (.s v27))] ∧ Gr H9 h' ∧ Ow H9.length h' 3 encI v27 R ∧ R.length < 1000) (fun Φ hΦ => ?_) ?_
    · refine WPl.inv2 (fun m fr h' => Gr H9 h' ∧ ∃ (k : Nat) (v27 : SV) (R : List Int), k ≤ 14 ∧ m = 14 - k ∧ R.length = k ∧ Ow H9.length h' 3 encI v27 R ∧
        fr = [(2, some (.s rv)), (4, some (.s (.int .i64 left0))), (5, some (.s (.int .i64 r0))), (6, some (.s (.int .i64 how))), (17, some (.s w)), (23, some (.s (.int .i64 nr.1))), (24, some (.s (.int .i64 nr.2))), (25, some (.s (.int .i64 nr.1))), (26, some (.s (.int .i64 nr.2))), (27, some (.s v27)), (28, some (.s (.int .i64 k)))]) ?_ _ _ _ ⟨Gr.refl _, 0, .nils, [], Nat.zero_le _, rfl, rfl, Ow.nil _ _, rfl⟩
      rintro I hI m fr h' ⟨gr, k, v27, R, hk, rfl, lR, oS, rfl⟩
      refine ⟨by simp [keepF, fget], ?_⟩
      have rr := hr.rd.gr ((g02.trans g29).trans gr)
      have rl := rr.len
      have l9 := (o9.gr gr).len
      have m1 := Int.tmod_lt_of_pos how (show (0 : Int) < 2 by omega)
      have m2 := Int.lt_tmod_of_pos how (show (0 : Int) < 2 by omega)
      have w5 : IntKind.i64.wrap ((rows2.length : Int) + how.tmod 2) = (rows2.length : Int) + how.tmod 2 := wrap_small (by omega) (by omega)
      by_cases hlt : k < rates.length
      · by_cases c : (k : Int) < (rows2.length : Int) + how.tmod 2
        · obtain ⟨j, p', q, ob, vs, rfl, q2, q3, q4⟩ := rr.int hlt
          have q5 := lt_of_some q2
          have a3 := fun h => Mt.rate_ok rates[k] h
          have w3 : IntKind.i64.wrap ((k : Int) + 1) = ((k + 1 : Nat) : Int) := wrap_small (by omega) (by omega)
          generalize rates[k] = x at *
          generalize Mt.rateF x = y at a3
          generalize Mt.rateR x = RR at a3
          have oS2 := oS.gr (Gr.self h' RR)
          have gr2 := gr.app RR
          have hA := oS2.app1 (y := 8) encI_len (by omega) [LO.own 3 [.int .i64 y]] [.int .i64 y]
          obtain ⟨f1, f2⟩ := Ow.step gr2 oS2 y [LO.own 3 [.int .i64 y]] (n := R.length + 1) (cs := [.int .i64 y]) (m := 1) rfl rfl rfl
          have lS := oS2.len
          simp only [List.append_assoc] at hA f1 f2
          simp [wpk_skip, wpk_seq, k_cond, wpk_block, wpk_exit, wpk_ret, wpk_loop, k_ops, k_draw0, t_nil, t_cons, KT_eq, KD_eq, wpo_nil, k_cons, k_step, mt_some, mtk_some, KO_eq, KP_eq, K_normal, K_ret, K_exit, KB_normal, KB_ret, KB_exit, KL_normal, KL_ret, KL_exit, k_ret, k_normal, stepE, isCall, calleeE, opE, wantE, odE, odS, odL, odSL, fget, fput, initE, keepF, List.map_cons, List.map_nil, binE, intOp, strOp, shOp, unE, eqpE, eqnE, neqB, ressE, resE, packL, packE, flat1, fcells, fillE, setL, cellsOf_bind, cellsO_own, cellsO_ro, lenE_sl, lenE_nils, lenE_sl0, bound, rep, minE, maxE, List.getElem?_cons_zero, List.getElem?_cons_succ, get_lt, set_lt, get_len, get_len_add, set_len, set_len_add, List.append_assoc, List.cons_append, List.nil_append, -getElem?_pos, l7_0_1, l7_0, rl, l9, hlt, c, w5, q2, q3, q4, q5, a3]
          obtain ⟨H', hH'⟩ : ∃ H', H' = h' ++ RR := ⟨_, rfl⟩
          simp only [← List.append_assoc, ← hH'] at hA f1 f2 ⊢
          have lH : h'.length + RR.length = H'.length := by rw [hH', List.length_append]
          simp [wpk_skip, wpk_seq, k_cond, wpk_block, wpk_exit, wpk_ret, wpk_loop, k_ops, k_draw0, t_nil, t_cons, KT_eq, KD_eq, wpo_nil, k_cons, k_step, mt_some, mtk_some, KO_eq, KP_eq, K_normal, K_ret, K_exit, KB_normal, KB_ret, KB_exit, KL_normal, KL_ret, KL_exit, k_ret, k_normal, stepE, isCall, calleeE, opE, wantE, odE, odS, odL, odSL, fget, fput, initE, keepF, List.map_cons, List.map_nil, binE, intOp, strOp, shOp, unE, eqpE, eqnE, neqB, ressE, resE, packL, packE, flat1, fcells, fillE, setL, cellsOf_bind, cellsO_own, cellsO_ro, lenE_sl, lenE_nils, lenE_sl0, bound, rep, minE, maxE, List.getElem?_cons_zero, List.getElem?_cons_succ, get_lt, set_lt, get_len, get_len_add, set_len, set_len_add, List.append_assoc, List.cons_append, List.nil_append, -getElem?_pos, elems, lS, hA, w3, lH]
          exact ⟨_, by omega, hI _ _ _ ⟨f1, k + 1, _, R ++ [y], by omega, rfl, by simp [lR], f2, rfl⟩⟩
        · simp [wpk_skip, wpk_seq, k_cond, wpk_block, wpk_exit, wpk_ret, wpk_loop, k_ops, k_draw0, t_nil, t_cons, KT_eq, KD_eq, wpo_nil, k_cons, k_step, mt_some, mtk_some, KO_eq, KP_eq, K_normal, K_ret, K_exit, KB_normal, KB_ret, KB_exit, KL_normal, KL_ret, KL_exit, k_ret, k_normal, stepE, isCall, calleeE, opE, wantE, odE, odS, odL, odSL, fget, fput, initE, keepF, List.map_cons, List.map_nil, binE, intOp, strOp, shOp, unE, eqpE, eqnE, neqB, ressE, resE, packL, packE, flat1, fcells, fillE, setL, cellsOf_bind, cellsO_own, cellsO_ro, lenE_sl, lenE_nils, lenE_sl0, bound, rep, minE, maxE, List.getElem?_cons_zero, List.getElem?_cons_succ, get_lt, set_lt, get_len, get_len_add, set_len, set_len_add, List.append_assoc, List.cons_append, List.nil_append, -getElem?_pos, l7_0_1, l7_0, rl, l9, hlt, c, w5]
          exact hΦ _ _ _ ⟨rfl, v27, R, rfl, gr, oS, by omega⟩
      · simp [wpk_skip, wpk_seq, k_cond, wpk_block, wpk_exit, wpk_ret, wpk_loop, k_ops, k_draw0, t_nil, t_cons, KT_eq, KD_eq, wpo_nil, k_cons, k_step, mt_some, mtk_some, KO_eq, KP_eq, K_normal, K_ret, K_exit, KB_normal, KB_ret, KB_exit, KL_normal, KL_ret, KL_exit, k_ret, k_normal, stepE, isCall, calleeE, opE, wantE, odE, odS, odL, odSL, fget, fput, initE, keepF, List.map_cons, List.map_nil, binE, intOp, strOp, shOp, unE, eqpE, eqnE, neqB, ressE, resE, packL, packE, flat1, fcells, fillE, setL, cellsOf_bind, cellsO_own, cellsO_ro, lenE_sl, lenE_nils, lenE_sl0, bound, rep, minE, maxE, List.getElem?_cons_zero, List.getElem?_cons_succ, get_lt, set_lt, get_len, get_len_add, set_len, set_len_add, List.append_assoc, List.cons_append, List.nil_append, -getElem?_pos, l7_0_1, l7_0, rl, hlt]
        exact hΦ _ _ _ ⟨rfl, v27, R, rfl, gr, oS, by omega⟩
    · rintro x fr' H10 ⟨rfl, v27, R, rfl, g10, oS, lR⟩
      have o10 := o9.gr g10
      simp [wpk_skip, wpk_seq, k_cond, wpk_block, wpk_exit, wpk_ret, wpk_loop, k_ops, k_draw0, t_nil, t_cons, KT_eq, KD_eq, wpo_nil, k_cons, k_step, mt_some, mtk_some, KO_eq, KP_eq, K_normal, K_ret, K_exit, KB_normal, KB_ret, KB_exit, KL_normal, KL_ret, KL_exit, k_ret, k_normal, stepE, isCall, calleeE, opE, wantE, odE, odS, odL, odSL, fget, fput, initE, keepF, List.map_cons, List.map_nil, binE, intOp, strOp, shOp, unE, eqpE, eqnE, neqB, ressE, resE, packL, packE, flat1, fcells, fillE, setL, cellsOf_bind, cellsO_own, cellsO_ro, lenE_sl, lenE_nils, lenE_sl0, bound, rep, minE, maxE, List.getElem?_cons_zero, List.getElem?_cons_succ, get_lt, set_lt, get_len, get_len_add, set_len, set_len_add, List.append_assoc, List.cons_append, List.nil_append, -getElem?_pos, s7_15]
      refine WPc.go (temp_ok (o10.rd encB_len) (oS.rd encI_len) (by omega) lR) ?_
      rintro _ H11 ⟨g11, rfl⟩
      simp [wpk_skip, wpk_seq, k_cond, wpk_block, wpk_exit, wpk_ret, wpk_loop, k_ops, k_draw0, t_nil, t_cons, KT_eq, KD_eq, wpo_nil, k_cons, k_step, mt_some, mtk_some, KO_eq, KP_eq, K_normal, K_ret, K_exit, KB_normal, KB_ret, KB_exit, KL_normal, KL_ret, KL_exit, k_ret, k_normal, stepE, isCall, calleeE, opE, wantE, odE, odS, odL, odSL, fget, fput, initE, keepF, List.map_cons, List.map_nil, binE, intOp, strOp, shOp, unE, eqpE, eqnE, neqB, ressE, resE, packL, packE, flat1, fcells, fillE, setL, cellsOf_bind, cellsO_own, cellsO_ro, lenE_sl, lenE_nils, lenE_sl0, bound, rep, minE, maxE, List.getElem?_cons_zero, List.getElem?_cons_succ, get_lt, set_lt, get_len, get_len_add, set_len, set_len_add, List.append_assoc, List.cons_append, List.nil_append, -getElem?_pos, s7_16]
      refine WPc.go (rtemp_ok ((o10.gr g11).rd encB_len) ((oS.gr g11).rd encI_len) (by omega) lR) ?_
      rintro _ H12 ⟨g12, rfl⟩
      have y5 := fun h => amount_ok w2 h
      have y6 := fun h => Mt.rate_ok r0 h
      generalize amountF left0 = L at *
      generalize Mt.rateF r0 = RT at *
      generalize Mt.rateR r0 = RR at *
      have y7 := fun h => loss_ok L RT h
      have y8 := fun h => share_ok L RT h
      simp [wpk_skip, wpk_seq, k_cond, wpk_block, wpk_exit, wpk_ret, wpk_loop, k_ops, k_draw0, t_nil, t_cons, KT_eq, KD_eq, wpo_nil, k_cons, k_step, mt_some, mtk_some, KO_eq, KP_eq, K_normal, K_ret, K_exit, KB_normal, KB_ret, KB_exit, KL_normal, KL_ret, KL_exit, k_ret, k_normal, stepE, isCall, calleeE, opE, wantE, odE, odS, odL, odSL, fget, fput, initE, keepF, List.map_cons, List.map_nil, binE, intOp, strOp, shOp, unE, eqpE, eqnE, neqB, ressE, resE, packL, packE, flat1, fcells, fillE, setL, cellsOf_bind, cellsO_own, cellsO_ro, lenE_sl, lenE_nils, lenE_sl0, bound, rep, minE, maxE, List.getElem?_cons_zero, List.getElem?_cons_succ, get_lt, set_lt, get_len, get_len_add, set_len, set_len_add, List.append_assoc, List.cons_append, List.nil_append, -getElem?_pos, s7_17, s7_18, s7_19, s7_20, y5, y6, y7, y8]
      refine WPc.go (mwakes_ok _) ?_
      rintro _ h9 ⟨g9, rfl⟩
      simp [wpk_skip, wpk_seq, k_cond, wpk_block, wpk_exit, wpk_ret, wpk_loop, k_ops, k_draw0, t_nil, t_cons, KT_eq, KD_eq, wpo_nil, k_cons, k_step, mt_some, mtk_some, KO_eq, KP_eq, K_normal, K_ret, K_exit, KB_normal, KB_ret, KB_exit, KL_normal, KL_ret, KL_exit, k_ret, k_normal, stepE, isCall, calleeE, opE, wantE, odE, odS, odL, odSL, fget, fput, initE, keepF, List.map_cons, List.map_nil, binE, intOp, strOp, shOp, unE, eqpE, eqnE, neqB, ressE, resE, packL, packE, flat1, fcells, fillE, setL, cellsOf_bind, cellsO_own, cellsO_ro, lenE_sl, lenE_nils, lenE_sl0, bound, rep, minE, maxE, List.getElem?_cons_zero, List.getElem?_cons_succ, get_lt, set_lt, get_len, get_len_add, set_len, set_len_add, List.append_assoc, List.cons_append, List.nil_append, -getElem?_pos]
      exact hΨ _ _ rfl
  have rest6 : ∀ (X : Fr) (H4 : LH) (rows2 : List Bu), Gr H2 H4 → Ow H2.length H4 30 encB w rows2 → rows2.length ≤ 12 →
      WPk C s7_6 ([(2, some (.s rv)), (3, some (.s (.int .i64 at0))), (4, some (.s (.int .i64 left0))), (5, some (.s (.int .i64 r0))), (6, some (.s (.int .i64 how))), (15, some (.s (.ptr i1 0))), (16, some (.s (.ptr i2 0))), (17, some (.s w))] ++ X) H4 (KR [ER.tmp 14] Ψ) := by
    intro X H4 rows2 g4 oR l12
    have y1 := fun h => within_ok at0 16 (by omega) h
    by_cases c : how.tmod 5 = 4
    · have c' : (how.tmod 5 != 4) = false := by simp [c]
      simp [wpk_skip, wpk_seq, k_cond, wpk_block, wpk_exit, wpk_ret, wpk_loop, k_ops, k_draw0, t_nil, t_cons, KT_eq, KD_eq, wpo_nil, k_cons, k_step, mt_some, mtk_some, KO_eq, KP_eq, K_normal, K_ret, K_exit, KB_normal, KB_ret, KB_exit, KL_normal, KL_ret, KL_exit, k_ret, k_normal, stepE, isCall, calleeE, opE, wantE, odE, odS, odL, odSL, fget, fput, initE, keepF, List.map_cons, List.map_nil, binE, intOp, strOp, shOp, unE, eqpE, eqnE, neqB, ressE, resE, packL, packE, flat1, fcells, fillE, setL, cellsOf_bind, cellsO_own, cellsO_ro, lenE_sl, lenE_nils, lenE_sl0, bound, rep, minE, maxE, List.getElem?_cons_zero, List.getElem?_cons_succ, get_lt, set_lt, get_len, get_len_add, set_len, set_len_add, List.append_assoc, List.cons_append, List.nil_append, -getElem?_pos, s7_6, c, c']
      exact rest7 [_] H4 rows2 at0 g4 oR l12
    · have c' : (how.tmod 5 != 4) = true := by simp [c]
      simp [wpk_skip, wpk_seq, k_cond, wpk_block, wpk_exit, wpk_ret, wpk_loop, k_ops, k_draw0, t_nil, t_cons, KT_eq, KD_eq, wpo_nil, k_cons, k_step, mt_some, mtk_some, KO_eq, KP_eq, K_normal, K_ret, K_exit, KB_normal, KB_ret, KB_exit, KL_normal, KL_ret, KL_exit, k_ret, k_normal, stepE, isCall, calleeE, opE, wantE, odE, odS, odL, odSL, fget, fput, initE, keepF, List.map_cons, List.map_nil, binE, intOp, strOp, shOp, unE, eqpE, eqnE, neqB, ressE, resE, packL, packE, flat1, fcells, fillE, setL, cellsOf_bind, cellsO_own, cellsO_ro, lenE_sl, lenE_nils, lenE_sl0, bound, rep, minE, maxE, List.getElem?_cons_zero, List.getElem?_cons_succ, get_lt, set_lt, get_len, get_len_add, set_len, set_len_add, List.append_assoc, List.cons_append, List.nil_append, -getElem?_pos, s7_6, c, c', y1]
      exact rest7 [] H4 rows2 _ g4 oR l12
  by_cases c : how.tmod 11 = 10
  · by_cases c2 : 0 < rows.length
    · obtain ⟨j1, u1, u2, u3, u4, u5⟩ := Ow.amt_at ow c2
      subst u2
      have l3 := lt_of_some u3
      have u4' : 2 + 1 ≤ (rows.map (fun a => (encB a).length)).sum := by rw [← List.length_flatMap]; simpa using u4
      have l2' : 1 ≤ rows.length := c2
      have oR := u5 at0
      simp only [Nat.zero_mul, Nat.zero_add] at oR
      have c3 : (rows.length : Int) > 0 := by omega
      simp [wpk_skip, wpk_seq, k_cond, wpk_block, wpk_exit, wpk_ret, wpk_loop, k_ops, k_draw0, t_nil, t_cons, KT_eq, KD_eq, wpo_nil, k_cons, k_step, mt_some, mtk_some, KO_eq, KP_eq, K_normal, K_ret, K_exit, KB_normal, KB_ret, KB_exit, KL_normal, KL_ret, KL_exit, k_ret, k_normal, stepE, isCall, calleeE, opE, wantE, odE, odS, odL, odSL, fget, fput, initE, keepF, List.map_cons, List.map_nil, binE, intOp, strOp, shOp, unE, eqpE, eqnE, neqB, ressE, resE, packL, packE, flat1, fcells, fillE, setL, cellsOf_bind, cellsO_own, cellsO_ro, lenE_sl, lenE_nils, lenE_sl0, bound, rep, minE, maxE, List.getElem?_cons_zero, List.getElem?_cons_succ, get_lt, set_lt, get_len, get_len_add, set_len, set_len_add, List.append_assoc, List.cons_append, List.nil_append, -getElem?_pos, hi3, li3, s7_5, c, c2, c3, u3, l3, u4', l2']
      exact rest6 [] _ _ (g3.set _ u1) oR (by simpa using lrows)
    · have c3 : ¬ (rows.length : Int) > 0 := by omega
      simp [wpk_skip, wpk_seq, k_cond, wpk_block, wpk_exit, wpk_ret, wpk_loop, k_ops, k_draw0, t_nil, t_cons, KT_eq, KD_eq, wpo_nil, k_cons, k_step, mt_some, mtk_some, KO_eq, KP_eq, K_normal, K_ret, K_exit, KB_normal, KB_ret, KB_exit, KL_normal, KL_ret, KL_exit, k_ret, k_normal, stepE, isCall, calleeE, opE, wantE, odE, odS, odL, odSL, fget, fput, initE, keepF, List.map_cons, List.map_nil, binE, intOp, strOp, shOp, unE, eqpE, eqnE, neqB, ressE, resE, packL, packE, flat1, fcells, fillE, setL, cellsOf_bind, cellsO_own, cellsO_ro, lenE_sl, lenE_nils, lenE_sl0, bound, rep, minE, maxE, List.getElem?_cons_zero, List.getElem?_cons_succ, get_lt, set_lt, get_len, get_len_add, set_len, set_len_add, List.append_assoc, List.cons_append, List.nil_append, -getElem?_pos, hi3, li3, s7_5, c, c2, c3, ow.len]
      exact rest6 [_] _ _ g3 ow lrows
  · have c' : (how.tmod 11 == 10) = false := by simp [c]
    simp [wpk_skip, wpk_seq, k_cond, wpk_block, wpk_exit, wpk_ret, wpk_loop, k_ops, k_draw0, t_nil, t_cons, KT_eq, KD_eq, wpo_nil, k_cons, k_step, mt_some, mtk_some, KO_eq, KP_eq, K_normal, K_ret, K_exit, KB_normal, KB_ret, KB_exit, KL_normal, KL_ret, KL_exit, k_ret, k_normal, stepE, isCall, calleeE, opE, wantE, odE, odS, odL, odSL, fget, fput, initE, keepF, List.map_cons, List.map_nil, binE, intOp, strOp, shOp, unE, eqpE, eqnE, neqB, ressE, resE, packL, packE, flat1, fcells, fillE, setL, cellsOf_bind, cellsO_own, cellsO_ro, lenE_sl, lenE_nils, lenE_sl0, bound, rep, minE, maxE, List.getElem?_cons_zero, List.getElem?_cons_succ, get_lt, set_lt, get_len, get_len_add, set_len, set_len_add, List.append_assoc, List.cons_append, List.nil_append, -getElem?_pos, hi3, li3, s7_5, c, c']
    exact rest6 [_] _ _ g3 ow lrows
end Go.Proofs.Ytcimcccnhbbncaa.Ev.CE
