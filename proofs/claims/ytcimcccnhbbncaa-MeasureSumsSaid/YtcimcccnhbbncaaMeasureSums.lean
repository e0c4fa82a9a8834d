/- MeasureSums on the small machine. -/
import Derived.Test.YtcimcccnhbbncaaMsS
import Derived.Test.YtcimcccnhbbncaaEvRow
set_option linter.unusedSimpArgs false
set_option linter.unusedVariables false
namespace Go.Proofs.Ytcimcccnhbbncaa.Ev.CE
open Go

theorem rep_mix (n : Nat) : rep n [SV.int .i64 0] = (List.replicate n (0 : Int)).map (.int .i64) := by
  induction n with
  | zero => rfl
  | succ m ih => rw [List.replicate_succ, List.map_cons, ← ih]; rfl
theorem rd_ints {h : LH} {i p k : Nat} {l : List Int} (hi : h[i]? = some (.own 3 (l.map (.int .i64)))) (hk : k < l.length) : Rd h 3 1 encI (.sl i p k 1) [l[k]] := by
  refine .inr ⟨i, p, k, _, _, rfl, hi, rfl, by simp; omega, ?_⟩
  rw [Nat.mul_one, List.length_singleton, Nat.mul_one, ← List.map_drop, ← List.map_take, List.drop_eq_getElem_cons hk]
  rfl
theorem rd_all {h : LH} {i p : Nat} {l : List Int} {n : Nat} (hn : n = l.length) (hi : h[i]? = some (.own 3 (l.map (.int .i64)))) : Rd h 3 1 encI (.sl i p 0 n) l := by
  subst hn
  refine Rd.lit encI_len ?_
  rw [encI_flat]; exact hi

set_option maxRecDepth 20000 in
set_option maxHeartbeats 8000000 in
theorem measureSums_ok {h0 : LH} {av : SV} {zs : List Int} (ha : IntA h0 3 av zs) (r0 : Int) (hz : ∀ z ∈ zs, (Lit.int .i64 z).wf = true) (hr0 : is64 r0) :
    ∃ h', callX C 3 [.s av, .s (.int .i64 r0)] h0 = some (.s (.bool true), h') ∧ True := by
  suffices w : WPc C 3 [.s av, .s (.int .i64 r0)] h0 fun u _ => u = .s (.bool true) by
    obtain ⟨v, h', e, rfl⟩ := w
    exact ⟨h', e, trivial⟩
  refine WPc.post fun Ψ hΨ => ?_
  refine WPc.intro (e := e3) rfl (by simp [e3]) ?_
  show WPk C b3 _ _ (KR [.tmp 4] _)
  have y1 := fun h => within_ok r0 1000001 (by omega) h
  have br : 0 ≤ r0 % 1000001 ∧ r0 % 1000001 ≤ 1000000 := by omega
  generalize r0 % 1000001 = r at *
  have rr : right r = true := decide_eq_true br
  have r0' : right 0 = true := rfl
  have r1' : right 1000000 = true := rfl
  simp [wpk_skip, wpk_seq, k_cond, wpk_block, wpk_exit, wpk_ret, wpk_loop, k_ops, k_draw0, t_nil, t_cons, KT_eq, KD_eq, wpo_nil, k_cons, k_step, mt_some, mtk_some, KO_eq, KP_eq, K_normal, K_ret, K_exit, KB_normal, KB_ret, KB_exit, KL_normal, KL_ret, KL_exit, k_ret, k_normal, stepE, isCall, calleeE, opE, wantE, odE, odS, odL, odSL, fget, fput, initE, keepF, List.map_cons, List.map_nil, binE, intOp, strOp, shOp, unE, eqpE, eqnE, neqB, ressE, resE, packL, packE, flat1, fcells, fillE, setL, cellsOf_bind, cellsO_own, cellsO_ro, lenE_sl, lenE_nils, lenE_sl0, bound, rep, minE, maxE, List.getElem?_cons_zero, List.getElem?_cons_succ, get_lt, set_lt, get_len, get_len_add, set_len, set_len_add, List.append_assoc, List.cons_append, List.nil_append, -getElem?_pos, b3, s3_1]
  refine WPc.go (register13_ok ha.rd fun z hz' => lit_64 (hz z hz')) ?_
  rintro _ h1 ⟨g1, i, w, rows, rfl, hge, hi, ow, g⟩
  have li := lt_of_some hi
  have hl := g.len
  have hn8 : rows.length * 8 ≤ 140737488355328 := by omega
  have hmon : ∀ b ∈ rows, money b.a = true := fun b hb => decide_eq_true (g.mon b hb)
  simp [wpk_skip, wpk_seq, k_cond, wpk_block, wpk_exit, wpk_ret, wpk_loop, k_ops, k_draw0, t_nil, t_cons, KT_eq, KD_eq, wpo_nil, k_cons, k_step, mt_some, mtk_some, KO_eq, KP_eq, K_normal, K_ret, K_exit, KB_normal, KB_ret, KB_exit, KL_normal, KL_ret, KL_exit, k_ret, k_normal, stepE, isCall, calleeE, opE, wantE, odE, odS, odL, odSL, fget, fput, initE, keepF, List.map_cons, List.map_nil, binE, intOp, strOp, shOp, unE, eqpE, eqnE, neqB, ressE, resE, packL, packE, flat1, fcells, fillE, setL, cellsOf_bind, cellsO_own, cellsO_ro, lenE_sl, lenE_nils, lenE_sl0, bound, rep, minE, maxE, List.getElem?_cons_zero, List.getElem?_cons_succ, get_lt, set_lt, get_len, get_len_add, set_len, set_len_add, List.append_assoc, List.cons_append, List.nil_append, -getElem?_pos, hi, li, ow.len, s3_2, s3_3, s3_4, s3_5, hn8, y1, rep_mix]
  obtain ⟨n, hn⟩ : ∃ n, n = rows.length := ⟨_, rfl⟩
  rw [← hn] at hl hn8 ⊢
  obtain ⟨H2, hH2⟩ : ∃ H2, H2 = h1 ++ [LO.own 3 (List.replicate n (SV.int .i64 0)), LO.own 3 (List.replicate n (SV.int .i64 0)), LO.own 3 (List.replicate n (SV.int .i64 0))] := ⟨_, rfl⟩
  have hmx : ∀ x, (mix 0 n x).map (SV.int .i64) = List.replicate n (SV.int .i64 0) := fun x => by rw [mix_zero, List.map_replicate]
  have a0 : H2[h1.length]? = some (.own 3 ((mix 0 n r).map (SV.int .i64))) := by rw [hH2, get_len, hmx]
  have a1 : H2[h1.length + 1]? = some (.own 3 ((List.replicate n (0 : Int)).map (SV.int .i64))) := by rw [hH2, get_len_add, List.map_replicate]; rfl
  have a2 : H2[h1.length + 2]? = some (.own 3 ((mix 0 n 1000000).map (SV.int .i64))) := by rw [hH2, get_len_add, hmx]; rfl
  have gH : Gr h1 H2 := by rw [hH2]; exact Gr.self _ _
  have lH : H2.length = h1.length + 3 := by rw [hH2]; simp
  rw [← hH2]
  have ow2 := ow.gr gH
  have rw2 := ow2.rd encB_len
  obtain ⟨tv, R', eT, oT⟩ := copy_gen (y := 24) rw2 (by omega)
  have el := rw2.elems
  rw [← hn] at eT
  simp [wpk_skip, wpk_seq, k_cond, wpk_block, wpk_exit, wpk_ret, wpk_loop, k_ops, k_draw0, t_nil, t_cons, KT_eq, KD_eq, wpo_nil, k_cons, k_step, mt_some, mtk_some, KO_eq, KP_eq, K_normal, K_ret, K_exit, KB_normal, KB_ret, KB_exit, KL_normal, KL_ret, KL_exit, k_ret, k_normal, stepE, isCall, calleeE, opE, wantE, odE, odS, odL, odSL, fget, fput, initE, keepF, List.map_cons, List.map_nil, binE, intOp, strOp, shOp, unE, eqpE, eqnE, neqB, ressE, resE, packL, packE, flat1, fcells, fillE, setL, cellsOf_bind, cellsO_own, cellsO_ro, lenE_sl, lenE_nils, lenE_sl0, bound, rep, minE, maxE, List.getElem?_cons_zero, List.getElem?_cons_succ, get_lt, set_lt, get_len, get_len_add, set_len, set_len_add, List.append_assoc, List.cons_append, List.nil_append, -getElem?_pos, el, eT]
  have gH3 : Gr H2 (H2 ++ R') := Gr.self _ _
  replace a0 := gH3.get a0
  replace a1 := gH3.get a1
  replace a2 := gH3.get a2
  have gS := gH.trans gH3
  generalize H2 ++ R' = H3 at *
  simp [wpk_skip, wpk_seq, k_cond, wpk_block, wpk_exit, wpk_ret, wpk_loop, k_ops, k_draw0, t_nil, t_cons, KT_eq, KD_eq, wpo_nil, k_cons, k_step, mt_some, mtk_some, KO_eq, KP_eq, K_normal, K_ret, K_exit, KB_normal, KB_ret, KB_exit, KL_normal, KL_ret, KL_exit, k_ret, k_normal, stepE, isCall, calleeE, opE, wantE, odE, odS, odL, odSL, fget, fput, initE, keepF, List.map_cons, List.map_nil, binE, intOp, strOp, shOp, unE, eqpE, eqnE, neqB, ressE, resE, packL, packE, flat1, fcells, fillE, setL, cellsOf_bind, cellsO_own, cellsO_ro, lenE_sl, lenE_nils, lenE_sl0, bound, rep, minE, maxE, List.getElem?_cons_zero, List.getElem?_cons_succ, get_lt, set_lt, get_len, get_len_add, set_len, set_len_add, List.append_assoc, List.cons_append, List.nil_append, -getElem?_pos, s3_6, ow.len, ← hn]
  refine WPl.post (fun x fr' h' => x = .exit 0 ∧ Gr h1 h' ∧ h'[h1.length]? = some (.own 3 ((mix n n r).map (SV.int .i64))) ∧ h'[h1.length + 1]? = some (.own 3 ((List.replicate n (0 : Int)).map (SV.int .i64))) ∧ h'[h1.length + 2]? = some (.own 3 ((mix n n 1000000).map (SV.int .i64))) ∧ Ow H2.length h' 30 encB tv (turn rows) ∧
      fr' = [(5, some (.s w)), (6, some (.s (.sl h1.length 0 0 n))), (7, some (.s (.sl (h1.length + 1) 0 0 n))), (8, some (.s (.sl (h1.length + 2) 0 0 n))), (9, some (.s (.int .i64 (-fs r rows)))), (10, some (.s (.int .i64 (amts rows).sum))), (11, some (.s tv))]) (fun Φ hΦ => ?_) ?_
  · refine WPl.inv2 (fun m fr h' => Gr h1 h' ∧ ∃ (k : Nat), k ≤ n ∧ m = n - k ∧ h'[h1.length]? = some (.own 3 ((mix k n r).map (SV.int .i64))) ∧ h'[h1.length + 1]? = some (.own 3 ((List.replicate n (0 : Int)).map (SV.int .i64))) ∧ h'[h1.length + 2]? = some (.own 3 ((mix k n 1000000).map (SV.int .i64))) ∧ Ow H2.length h' 30 encB tv (turn (rows.take k) ++ rows.drop k) ∧
      fr = [(1, some (.s (.int .i64 r))), (5, some (.s w)), (6, some (.s (.sl h1.length 0 0 n))), (7, some (.s (.sl (h1.length + 1) 0 0 n))), (8, some (.s (.sl (h1.length + 2) 0 0 n))), (9, some (.s (.int .i64 (-fs r (rows.take k))))), (10, some (.s (.int .i64 (amts (rows.take k)).sum))), (11, some (.s tv)), (42, some (.s (.int .i64 n))), (43, some (.s (.int .i64 k)))]) ?_ _ _ _ ⟨gS, 0, Nat.zero_le _, rfl, a0, a1, a2, by simpa [turn] using oT, by simp [fs, amts]⟩
    rintro I hI m fr h' ⟨gr, k, hk, rfl, b0, b1, b2, oT, rfl⟩
    refine ⟨by simp [keepF, fget], ?_⟩
    by_cases hlt : k < n
    · have kr : k < rows.length := by omega
      have w3 : IntKind.i64.wrap ((k : Int) + 1) = ((k + 1 : Nat) : Int) := wrap_small (by omega) (by omega)
      have oW := ow.gr gr
      have lT : (turn (rows.take k) ++ rows.drop k).length = n := by simp [turn]; omega
      have kT : k < (turn (rows.take k) ++ rows.drop k).length := by omega
      have tset := turn_set kr
      have tget := turn_get kr kT
      generalize turn (rows.take k) ++ rows.drop k = T at *
      obtain ⟨j1, u1, u2, u3, u4, -⟩ := Ow.amt_at ow kr
      have u3' := gr.get u3
      obtain ⟨j2, z1, z2, z3, z4, z5⟩ := Ow.amt_at oT kT
      have l1 := lt_of_some u3
      have l0 := lt_of_some b0
      have l2 := lt_of_some b2
      have lj := lt_of_some z3
      have lj1 := lt_of_some u3'
      have c4 := flat_at encB_len rows k kr
      have c3 : k * 3 + 3 ≤ (rows.flatMap encB).length := by omega
      simp only [encB] at c4
      have hx := g.mon _ (List.getElem_mem kr)
      have hsum := fs_snoc r (rows.take k) rows[k]
      have hams := amts_snoc (rows.take k) rows[k]
      rw [← List.take_succ_eq_append_getElem kr] at hsum hams
      have lk : (rows.take k).length = k := by simp; omega
      have fb := fs_bound (r := r) br (l := rows.take k) fun b hb => g.mon b (List.mem_of_mem_take hb)
      have ab := fs_bound (r := 1000000) (by omega) (l := rows.take k) fun b hb => g.mon b (List.mem_of_mem_take hb)
      rw [lk] at fb ab
      rw [fs_one] at ab
      have ob := ofF_le hx br
      have w4 : IntKind.i64.wrap (-fs r (rows.take k) - ofF rows[k].a r) = -fs r (rows.take (k + 1)) := by rw [hsum, wrap_small (by omega) (by omega)]; omega
      have w4' : IntKind.i64.wrap (-fs r (rows.take k) + -ofF rows[k].a r) = -fs r (rows.take (k + 1)) := by rw [hsum, wrap_small (by omega) (by omega)]; omega
      have w5 : IntKind.i64.wrap ((amts (rows.take k)).sum + rows[k].a) = (amts (rows.take (k + 1))).sum := by rw [hams, wrap_small (by omega) (by omega)]
      have w6 : IntKind.i64.wrap (-rows[k].a) = -rows[k].a := wrap_small (by omega) (by omega)
      have n1 : j1 ≠ h1.length := by omega
      have n2 : j1 ≠ h1.length + 2 := by omega
      have n3 : j2 ≠ h1.length := by omega
      have n4 : j2 ≠ h1.length + 2 := by omega
      have n5 : j2 ≠ j1 := by omega
      have n6 : h1.length + 1 ≠ j2 := by omega
      have hrow : u4 = u4 := rfl
      have gget : (rows.flatMap encB)[k * 3 + 2]? = some (.int .i64 rows[k].a) := by
        have := congrArg (fun l : List SV => l[2]?) c4
        simpa [List.getElem?_take, List.getElem?_drop] using this
      have m0 : k < (mix k n r).length := by rw [mix_len hk]; exact hlt
      have m1 : k + 1 ≤ (mix k n r).length := m0
      have m2 : k < (mix k n 1000000).length := by rw [mix_len hk]; exact hlt
      have m3 : k + 1 ≤ (mix k n 1000000).length := m2
      obtain ⟨X, hX⟩ : ∃ X, X = ((h'.set h1.length (.own 3 ((mix (k + 1) n r).map (SV.int .i64)))).set (h1.length + 2) (.own 3 ((mix (k + 1) n 1000000).map (SV.int .i64)))).set j2 (.own 30 ((T.flatMap encB).set (k * 3 + 2) (.int .i64 (-rows[k].a)))) := ⟨_, rfl⟩
      have s0 := mix_set hlt r
      have s1 := mix_set hlt 1000000
      have e0 : ((mix k n r).map (SV.int .i64)).set k (.int .i64 r) = (mix (k + 1) n r).map (SV.int .i64) := by rw [← List.map_set, s0]
      have e1 : ((mix k n 1000000).map (SV.int .i64)).set k (.int .i64 1000000) = (mix (k + 1) n 1000000).map (SV.int .i64) := by rw [← List.map_set, s1]
      subst u2 z2
      have g1X : Gr h1 X := by rw [hX]; exact ((gr.set _ (Nat.le_refl _)).set _ (by omega)).set _ (by omega)
      have p0 : X[h1.length]? = some (.own 3 ((mix (k + 1) n r).map (SV.int .i64))) := by rw [hX, get_ne n3, get_ne (by omega), get_self l0]
      have p1 : X[h1.length + 1]? = some (.own 3 ((List.replicate n (0 : Int)).map (SV.int .i64))) := by rw [hX, get_ne (Ne.symm n6), get_ne (by omega), get_ne (by omega)]; exact b1
      have p2 : X[h1.length + 2]? = some (.own 3 ((mix (k + 1) n 1000000).map (SV.int .i64))) := by rw [hX, get_ne n4, get_self (by simpa using l2)]
      have pT : Ow H2.length X 30 encB (.sl j2 0 0 T.length) (turn (rows.take (k + 1)) ++ rows.drop (k + 1)) := by
        have := (z5 (-rows[k].a))
        rw [tget, tset] at this
        refine .inr ⟨j2, z1, by simp [turn]; omega, ?_⟩
        rw [hX, get_self (by simpa using lj), flatB_set T k kT, tget, tset]
      have pW := u3'
      have pj : X[j1]? = some (.own 30 (rows.flatMap encB)) := g1X.get u3
      have q0 : Rd X 30 3 encB (.sl j1 0 k 1) [rows[k]] := .inr ⟨j1, 0, k, _, _, rfl, pj, rfl, by rw [List.length_singleton]; omega, by simpa [encB] using c4⟩
      have m4 : k < (mix (k + 1) n r).length := by rw [mix_len (by omega)]; exact hlt
      have q1 := rd_ints (p := 0) p0 m4
      have q2 : (mix (k + 1) n r)[k] = r := by
        have : (mix (k + 1) n r)[k]? = some r := by unfold mix; rw [List.getElem?_append_left (by simp), List.getElem?_replicate, if_pos (by omega)]
        rw [List.getElem?_eq_getElem m4] at this
        exact Option.some.inj this
      rw [q2] at q1
      have tt := temp_ok q0 q1 (by simp) (by simp)
      have t0 := temp_all rr [rows[k]] (fun b hb => by rw [List.mem_singleton.1 hb]; exact hmon _ (List.getElem_mem kr))
      have t1 : fs r [rows[k]] = ofF rows[k].a r := by simp [fs]
      rw [t1, show money (-ofF rows[k].a r) = true from decide_eq_true (by omega), if_pos rfl] at t0
      have t0 : tempF [rows[k]] [r] = (-ofF rows[k].a r, 0) := t0
      rw [t0] at tt
      simp [wpk_skip, wpk_seq, k_cond, wpk_block, wpk_exit, wpk_ret, wpk_loop, k_ops, k_draw0, t_nil, t_cons, KT_eq, KD_eq, wpo_nil, k_cons, k_step, mt_some, mtk_some, KO_eq, KP_eq, K_normal, K_ret, K_exit, KB_normal, KB_ret, KB_exit, KL_normal, KL_ret, KL_exit, k_ret, k_normal, stepE, isCall, calleeE, opE, wantE, odE, odS, odL, odSL, fget, fput, initE, keepF, List.map_cons, List.map_nil, binE, intOp, strOp, shOp, unE, eqpE, eqnE, neqB, ressE, resE, packL, packE, flat1, fcells, fillE, setL, cellsOf_bind, cellsO_own, cellsO_ro, lenE_sl, lenE_nils, lenE_sl0, bound, rep, minE, maxE, List.getElem?_cons_zero, List.getElem?_cons_succ, get_lt, set_lt, get_len, get_len_add, set_len, set_len_add, List.append_assoc, List.cons_append, List.nil_append, -getElem?_pos, l3_0_2, l3_0_1, l3_0, hlt, kr, kT, b0, b2, l0, l2, lj, lj1, u3', z3, z4, c3, c4, n1, n2, n3, n4, n5, Ne.symm n1, Ne.symm n2, Ne.symm n3, Ne.symm n4, Ne.symm n5, get_ne, get_self, gget, m0, m1, m2, m3, w6, e0, e1, List.length_set]
      rw [← hX]
      have k1 : k + 1 ≤ n := hlt
      have k1' : k + 1 ≤ rows.length := kr
      have z4' : k * 3 + 2 + 1 ≤ (T.map (fun a => (encB a).length)).sum := by rw [← List.length_flatMap]; exact z4
      have kp : (0 : Int) ≤ (k : Int) + 1 := by omega
      simp [wpk_skip, wpk_seq, k_cond, wpk_block, wpk_exit, wpk_ret, wpk_loop, k_ops, k_draw0, t_nil, t_cons, KT_eq, KD_eq, wpo_nil, k_cons, k_step, mt_some, mtk_some, KO_eq, KP_eq, K_normal, K_ret, K_exit, KB_normal, KB_ret, KB_exit, KL_normal, KL_ret, KL_exit, k_ret, k_normal, stepE, isCall, calleeE, opE, wantE, odE, odS, odL, odSL, fget, fput, initE, keepF, List.map_cons, List.map_nil, binE, intOp, strOp, shOp, unE, eqpE, eqnE, neqB, ressE, resE, packL, packE, flat1, fcells, fillE, setL, cellsOf_bind, cellsO_own, cellsO_ro, lenE_sl, lenE_nils, lenE_sl0, bound, rep, minE, maxE, List.getElem?_cons_zero, List.getElem?_cons_succ, get_lt, set_lt, get_len, get_len_add, set_len, set_len_add, List.append_assoc, List.cons_append, List.nil_append, -getElem?_pos, z4', w3, p0, pj, k1, k1', hlt, kr, kp, Nat.add_sub_cancel_left]
      refine WPc.go tt ?_
      rintro _ h5 ⟨g5, rfl⟩
      have pj5 := g5.get pj
      have lj5 := lt_of_some pj5
      simp [wpk_skip, wpk_seq, k_cond, wpk_block, wpk_exit, wpk_ret, wpk_loop, k_ops, k_draw0, t_nil, t_cons, KT_eq, KD_eq, wpo_nil, k_cons, k_step, mt_some, mtk_some, KO_eq, KP_eq, K_normal, K_ret, K_exit, KB_normal, KB_ret, KB_exit, KL_normal, KL_ret, KL_exit, k_ret, k_normal, stepE, isCall, calleeE, opE, wantE, odE, odS, odL, odSL, fget, fput, initE, keepF, List.map_cons, List.map_nil, binE, intOp, strOp, shOp, unE, eqpE, eqnE, neqB, ressE, resE, packL, packE, flat1, fcells, fillE, setL, cellsOf_bind, cellsO_own, cellsO_ro, lenE_sl, lenE_nils, lenE_sl0, bound, rep, minE, maxE, List.getElem?_cons_zero, List.getElem?_cons_succ, get_lt, set_lt, get_len, get_len_add, set_len, set_len_add, List.append_assoc, List.cons_append, List.nil_append, -getElem?_pos, w3, w4, w4', w5, pj5, lj5, k1, k1', hlt, kr, kp, c3, c4, gget]
      exact ⟨_, by omega, hI _ _ _ ⟨g1X.trans g5, k + 1, hlt, rfl, g5.get p0, g5.get p1, g5.get p2, pT.gr g5, rfl⟩⟩
    · obtain rfl : k = n := by omega
      have e1 : rows.take k = rows := by rw [hn, List.take_length]
      have e2 : rows.drop k = [] := by rw [hn, List.drop_length]
      rw [e1, e2, List.append_nil] at oT
      rw [e1]
      simp [wpk_skip, wpk_seq, k_cond, wpk_block, wpk_exit, wpk_ret, wpk_loop, k_ops, k_draw0, t_nil, t_cons, KT_eq, KD_eq, wpo_nil, k_cons, k_step, mt_some, mtk_some, KO_eq, KP_eq, K_normal, K_ret, K_exit, KB_normal, KB_ret, KB_exit, KL_normal, KL_ret, KL_exit, k_ret, k_normal, stepE, isCall, calleeE, opE, wantE, odE, odS, odL, odSL, fget, fput, initE, keepF, List.map_cons, List.map_nil, binE, intOp, strOp, shOp, unE, eqpE, eqnE, neqB, ressE, resE, packL, packE, flat1, fcells, fillE, setL, cellsOf_bind, cellsO_own, cellsO_ro, lenE_sl, lenE_nils, lenE_sl0, bound, rep, minE, maxE, List.getElem?_cons_zero, List.getElem?_cons_succ, get_lt, set_lt, get_len, get_len_add, set_len, set_len_add, List.append_assoc, List.cons_append, List.nil_append, -getElem?_pos, l3_0_2, l3_0_1, l3_0, hlt]
      exact hΦ _ _ _ ⟨rfl, gr, b0, b1, b2, oT, rfl⟩
  · rintro x fr' h4 ⟨rfl, gr, b0, b1, b2, oT, rfl⟩
    rw [mix_all] at b0 b2
    have lr : (List.replicate n r).length = n := by simp
    have rdw := (ow.gr gr).rd encB_len
    have rdt := oT.rd encB_len
    have q0 := rd_all (p := 0) (n := n) (by simp) b0
    have q1 := rd_all (p := 0) (n := n) (by simp) b1
    have q2 := rd_all (p := 0) (n := n) (by simp) b2
    have lt : (turn rows).length = n := by simp [turn, hn]
    have t0 := temp_all rr rows hmon
    have t1 := temp_all r0' rows hmon
    have t2 := temp_all r1' rows hmon
    have t3 := temp_all rr (turn rows) (turn_money hmon)
    rw [← hn] at t0 t1 t2
    rw [lt, fs_turn br.1, Int.neg_neg] at t3
    rw [fs_zero, Int.neg_zero, show money 0 = true from rfl, if_pos rfl] at t1
    rw [fs_one, show money (-(amts rows).sum) = true from decide_eq_true (by have := g.sum; omega), if_pos rfl] at t2
    simp [wpk_skip, wpk_seq, k_cond, wpk_block, wpk_exit, wpk_ret, wpk_loop, k_ops, k_draw0, t_nil, t_cons, KT_eq, KD_eq, wpo_nil, k_cons, k_step, mt_some, mtk_some, KO_eq, KP_eq, K_normal, K_ret, K_exit, KB_normal, KB_ret, KB_exit, KL_normal, KL_ret, KL_exit, k_ret, k_normal, stepE, isCall, calleeE, opE, wantE, odE, odS, odL, odSL, fget, fput, initE, keepF, List.map_cons, List.map_nil, binE, intOp, strOp, shOp, unE, eqpE, eqnE, neqB, ressE, resE, packL, packE, flat1, fcells, fillE, setL, cellsOf_bind, cellsO_own, cellsO_ro, lenE_sl, lenE_nils, lenE_sl0, bound, rep, minE, maxE, List.getElem?_cons_zero, List.getElem?_cons_succ, get_lt, set_lt, get_len, get_len_add, set_len, set_len_add, List.append_assoc, List.cons_append, List.nil_append, -getElem?_pos, s3_7]
    refine WPc.go (temp_ok rdw q0 (by omega) (by simp; omega)) ?_
    rintro _ h5 ⟨g5, rfl⟩
    simp [wpk_skip, wpk_seq, k_cond, wpk_block, wpk_exit, wpk_ret, wpk_loop, k_ops, k_draw0, t_nil, t_cons, KT_eq, KD_eq, wpo_nil, k_cons, k_step, mt_some, mtk_some, KO_eq, KP_eq, K_normal, K_ret, K_exit, KB_normal, KB_ret, KB_exit, KL_normal, KL_ret, KL_exit, k_ret, k_normal, stepE, isCall, calleeE, opE, wantE, odE, odS, odL, odSL, fget, fput, initE, keepF, List.map_cons, List.map_nil, binE, intOp, strOp, shOp, unE, eqpE, eqnE, neqB, ressE, resE, packL, packE, flat1, fcells, fillE, setL, cellsOf_bind, cellsO_own, cellsO_ro, lenE_sl, lenE_nils, lenE_sl0, bound, rep, minE, maxE, List.getElem?_cons_zero, List.getElem?_cons_succ, get_lt, set_lt, get_len, get_len_add, set_len, set_len_add, List.append_assoc, List.cons_append, List.nil_append, -getElem?_pos, s3_8]
    refine WPc.go (temp_ok (rdt.gr g5) (q0.gr g5) (by omega) (by simp; omega)) ?_
    rintro _ h6 ⟨g6, rfl⟩
    have g56 := g5.trans g6
    simp [wpk_skip, wpk_seq, k_cond, wpk_block, wpk_exit, wpk_ret, wpk_loop, k_ops, k_draw0, t_nil, t_cons, KT_eq, KD_eq, wpo_nil, k_cons, k_step, mt_some, mtk_some, KO_eq, KP_eq, K_normal, K_ret, K_exit, KB_normal, KB_ret, KB_exit, KL_normal, KL_ret, KL_exit, k_ret, k_normal, stepE, isCall, calleeE, opE, wantE, odE, odS, odL, odSL, fget, fput, initE, keepF, List.map_cons, List.map_nil, binE, intOp, strOp, shOp, unE, eqpE, eqnE, neqB, ressE, resE, packL, packE, flat1, fcells, fillE, setL, cellsOf_bind, cellsO_own, cellsO_ro, lenE_sl, lenE_nils, lenE_sl0, bound, rep, minE, maxE, List.getElem?_cons_zero, List.getElem?_cons_succ, get_lt, set_lt, get_len, get_len_add, set_len, set_len_add, List.append_assoc, List.cons_append, List.nil_append, -getElem?_pos, s3_9]
    refine WPc.go (temp_ok (rdw.gr g56) (q1.gr g56) (by omega) (by simp; omega)) ?_
    rintro _ h7 ⟨g7, rfl⟩
    have g57 := g56.trans g7
    simp [wpk_skip, wpk_seq, k_cond, wpk_block, wpk_exit, wpk_ret, wpk_loop, k_ops, k_draw0, t_nil, t_cons, KT_eq, KD_eq, wpo_nil, k_cons, k_step, mt_some, mtk_some, KO_eq, KP_eq, K_normal, K_ret, K_exit, KB_normal, KB_ret, KB_exit, KL_normal, KL_ret, KL_exit, k_ret, k_normal, stepE, isCall, calleeE, opE, wantE, odE, odS, odL, odSL, fget, fput, initE, keepF, List.map_cons, List.map_nil, binE, intOp, strOp, shOp, unE, eqpE, eqnE, neqB, ressE, resE, packL, packE, flat1, fcells, fillE, setL, cellsOf_bind, cellsO_own, cellsO_ro, lenE_sl, lenE_nils, lenE_sl0, bound, rep, minE, maxE, List.getElem?_cons_zero, List.getElem?_cons_succ, get_lt, set_lt, get_len, get_len_add, set_len, set_len_add, List.append_assoc, List.cons_append, List.nil_append, -getElem?_pos, s3_10]
    refine WPc.go (temp_ok (rdw.gr g57) (q2.gr g57) (by omega) (by simp; omega)) ?_
    rintro _ h8 ⟨g8, rfl⟩
    rw [t0, t1, t2, t3]
    have fb := fs_bound (r := r) br (l := rows) fun b hb => g.mon b hb
    have hS := g.sum
    have w4 : IntKind.i64.wrap (-(-fs r rows)) = fs r rows := by rw [wrap_small (by omega) (by omega)]; omega
    have w5 : IntKind.i64.wrap (-(amts rows).sum) = -(amts rows).sum := wrap_small (by omega) (by omega)
    have em : money (fs r rows) = money (-fs r rows) := by
      unfold money
      rw [Bool.eq_iff_iff, decide_eq_true_iff, decide_eq_true_iff]; omega
    have w4' : IntKind.i64.wrap (fs r rows) = fs r rows := wrap_small (by omega) (by omega)
    rw [em]
    cases hm : money (-fs r rows) with
    | true =>
      simp [wpk_skip, wpk_seq, k_cond, wpk_block, wpk_exit, wpk_ret, wpk_loop, k_ops, k_draw0, t_nil, t_cons, KT_eq, KD_eq, wpo_nil, k_cons, k_step, mt_some, mtk_some, KO_eq, KP_eq, K_normal, K_ret, K_exit, KB_normal, KB_ret, KB_exit, KL_normal, KL_ret, KL_exit, k_ret, k_normal, stepE, isCall, calleeE, opE, wantE, odE, odS, odL, odSL, fget, fput, initE, keepF, List.map_cons, List.map_nil, binE, intOp, strOp, shOp, unE, eqpE, eqnE, neqB, ressE, resE, packL, packE, flat1, fcells, fillE, setL, cellsOf_bind, cellsO_own, cellsO_ro, lenE_sl, lenE_nils, lenE_sl0, bound, rep, minE, maxE, List.getElem?_cons_zero, List.getElem?_cons_succ, get_lt, set_lt, get_len, get_len_add, set_len, set_len_add, List.append_assoc, List.cons_append, List.nil_append, -getElem?_pos, s3_11, s3_12, w4, w4', w5]
      refine WPc.go (mwakes_ok _) ?_
      rintro _ h9 ⟨g9, rfl⟩
      simp [wpk_skip, wpk_seq, k_cond, wpk_block, wpk_exit, wpk_ret, wpk_loop, k_ops, k_draw0, t_nil, t_cons, KT_eq, KD_eq, wpo_nil, k_cons, k_step, mt_some, mtk_some, KO_eq, KP_eq, K_normal, K_ret, K_exit, KB_normal, KB_ret, KB_exit, KL_normal, KL_ret, KL_exit, k_ret, k_normal, stepE, isCall, calleeE, opE, wantE, odE, odS, odL, odSL, fget, fput, initE, keepF, List.map_cons, List.map_nil, binE, intOp, strOp, shOp, unE, eqpE, eqnE, neqB, ressE, resE, packL, packE, flat1, fcells, fillE, setL, cellsOf_bind, cellsO_own, cellsO_ro, lenE_sl, lenE_nils, lenE_sl0, bound, rep, minE, maxE, List.getElem?_cons_zero, List.getElem?_cons_succ, get_lt, set_lt, get_len, get_len_add, set_len, set_len_add, List.append_assoc, List.cons_append, List.nil_append, -getElem?_pos]
      exact hΨ _ _ rfl
    | false =>
      simp [wpk_skip, wpk_seq, k_cond, wpk_block, wpk_exit, wpk_ret, wpk_loop, k_ops, k_draw0, t_nil, t_cons, KT_eq, KD_eq, wpo_nil, k_cons, k_step, mt_some, mtk_some, KO_eq, KP_eq, K_normal, K_ret, K_exit, KB_normal, KB_ret, KB_exit, KL_normal, KL_ret, KL_exit, k_ret, k_normal, stepE, isCall, calleeE, opE, wantE, odE, odS, odL, odSL, fget, fput, initE, keepF, List.map_cons, List.map_nil, binE, intOp, strOp, shOp, unE, eqpE, eqnE, neqB, ressE, resE, packL, packE, flat1, fcells, fillE, setL, cellsOf_bind, cellsO_own, cellsO_ro, lenE_sl, lenE_nils, lenE_sl0, bound, rep, minE, maxE, List.getElem?_cons_zero, List.getElem?_cons_succ, get_lt, set_lt, get_len, get_len_add, set_len, set_len_add, List.append_assoc, List.cons_append, List.nil_append, -getElem?_pos, s3_11, s3_12, w4, w4', w5]
      refine WPc.go (mwakes_ok _) ?_
      rintro _ h9 ⟨g9, rfl⟩
      simp [wpk_skip, wpk_seq, k_cond, wpk_block, wpk_exit, wpk_ret, wpk_loop, k_ops, k_draw0, t_nil, t_cons, KT_eq, KD_eq, wpo_nil, k_cons, k_step, mt_some, mtk_some, KO_eq, KP_eq, K_normal, K_ret, K_exit, KB_normal, KB_ret, KB_exit, KL_normal, KL_ret, KL_exit, k_ret, k_normal, stepE, isCall, calleeE, opE, wantE, odE, odS, odL, odSL, fget, fput, initE, keepF, List.map_cons, List.map_nil, binE, intOp, strOp, shOp, unE, eqpE, eqnE, neqB, ressE, resE, packL, packE, flat1, fcells, fillE, setL, cellsOf_bind, cellsO_own, cellsO_ro, lenE_sl, lenE_nils, lenE_sl0, bound, rep, minE, maxE, List.getElem?_cons_zero, List.getElem?_cons_succ, get_lt, set_lt, get_len, get_len_add, set_len, set_len_add, List.append_assoc, List.cons_append, List.nil_append, -getElem?_pos]
      exact hΨ _ _ rfl
end Go.Proofs.Ytcimcccnhbbncaa.Ev.CE
