/- MeasureNear on the small machine. -/
import Derived.Test.YtcimcccnhbbncaaRegD
import Derived.Test.YtcimcccnhbbncaaEvRow
set_option linter.unusedSimpArgs false
set_option linter.unusedVariables false
namespace Go.Proofs.Ytcimcccnhbbncaa.Ev.CE
open Go

theorem ofF_near {n r : Int} (hn : -1000000 ≤ n ∧ n ≤ 1000000) (hr : 0 ≤ r ∧ r ≤ 1000000) : -1000000 ≤ 2 * (n * r - 1000000 * ofF n r) ∧ 2 * (n * r - 1000000 * ofF n r) ≤ 1000000 := by
  have e : 2 * n * r = 2 * (n * r) := Int.mul_assoc _ _ _
  unfold ofF
  rw [e]
  by_cases c : n < 0
  · rw [if_pos c]
    have hx : n * r ≤ 0 := Int.mul_nonpos_of_nonpos_of_nonneg (by omega) hr.1
    generalize n * r = x at hx
    have h := Int.mul_tdiv_add_tmod (2 * x - 1000000) 2000000
    have h2 := Int.lt_tmod_of_pos (2 * x - 1000000) (show (0 : Int) < 2000000 by omega)
    have h3 : (2 * x - 1000000).tmod 2000000 ≤ 0 := by
      have := Int.tmod_nonneg 2000000 (a := -(2 * x - 1000000)) (by omega)
      rw [Int.neg_tmod] at this; omega
    generalize (2 * x - 1000000).tdiv 2000000 = q at *
    generalize (2 * x - 1000000).tmod 2000000 = m at *
    omega
  · rw [if_neg c]
    have hx : 0 ≤ n * r := Int.mul_nonneg (by omega) hr.1
    generalize n * r = x at hx
    have h := Int.mul_tdiv_add_tmod (2 * x + 1000000) 2000000
    have h2 := Int.tmod_lt_of_pos (2 * x + 1000000) (show (0 : Int) < 2000000 by omega)
    have h3 := Int.tmod_nonneg 2000000 (a := 2 * x + 1000000) (by omega)
    generalize (2 * x + 1000000).tdiv 2000000 = q at *
    generalize (2 * x + 1000000).tmod 2000000 = m at *
    omega

/-- Amounts times rates. -/
def dots : List Bu → List Int → Int
  | b :: bs, r :: rs => b.a * r + dots bs rs
  | _, _ => 0
theorem dots_snoc : ∀ (bs : List Bu) (rs : List Int) (b : Bu) (r : Int), bs.length = rs.length → dots (bs ++ [b]) (rs ++ [r]) = dots bs rs + b.a * r
  | [], [], b, r, _ => by simp [dots]
  | x :: bs, y :: rs, b, r, h => by
    have ih := dots_snoc bs rs b r (by simpa using h)
    simp only [List.cons_append, dots, ih]; omega
  | [], _ :: _, _, _, h => by simp at h
  | _ :: _, [], _, _, h => by simp at h
theorem temp_near : ∀ (bs : List Bu) (rs : List Int) (m : Int), bs.length = rs.length → (∀ b ∈ bs, -1000000 ≤ b.a ∧ b.a ≤ 1000000) → (∀ r ∈ rs, 0 ≤ r ∧ r ≤ 1000000) →
    -100000000000 ≤ m - 2000000 * bs.length ∧ m + 2000000 * bs.length ≤ 100000000000 →
    ∃ n, tempGo m bs rs = (n, 0) ∧ -1000000 * (bs.length : Int) ≤ 2 * (1000000 * (n - m) + dots bs rs) ∧ 2 * (1000000 * (n - m) + dots bs rs) ≤ 1000000 * bs.length
  | [], [], m, _, _, _, hm => by
    refine ⟨m, ?_, by simp [dots], by simp [dots]⟩
    rw [tempGo_nil, if_pos]
    unfold money
    simp only [List.length_nil] at hm
    exact decide_eq_true (by omega)
  | b :: bs, r :: rs, m, hl, hb, hr, hm => by
    have b1 := hb b List.mem_cons_self
    have r1 := hr r List.mem_cons_self
    have o1 := ofF_near b1 r1
    have x1 := mul_bounds (n := b.a) (r := r) (N := 1000000) (R := 1000000) (by omega) r1 (by omega)
    have e1 : right r = true := by unfold right; exact decide_eq_true r1
    have e2 : money b.a = true := by unfold money; exact decide_eq_true (by omega)
    simp only [List.length_cons] at hm
    obtain ⟨n, i1, i2, i3⟩ := temp_near bs rs (m - ofF b.a r) (by simpa using hl) (fun x hx => hb x (List.mem_cons_of_mem _ hx)) (fun x hx => hr x (List.mem_cons_of_mem _ hx)) (by omega)
    refine ⟨n, by rw [tempGo_cons, e1, e2]; exact i1, ?_, ?_⟩
    · simp only [dots, List.length_cons]; omega
    · simp only [dots, List.length_cons]; omega
  | [], _ :: _, _, h, _, _, _ => by simp at h
  | _ :: _, [], _, h, _, _, _ => by simp at h

set_option maxRecDepth 20000 in
set_option maxHeartbeats 8000000 in
theorem measureNear_ok {h0 : LH} {av bv : SV} {zs os : List Int} (ha : IntA h0 3 av zs) (hb : IntA h0 3 bv os) (hz : ∀ z ∈ zs, (Lit.int .i64 z).wf = true) (ho : ∀ z ∈ os, (Lit.int .i64 z).wf = true) :
    ∃ h', callX C 4 [.s av, .s bv] h0 = some (.s (.bool true), h') ∧ True := by
  suffices w : WPc C 4 [.s av, .s bv] h0 fun u _ => u = .s (.bool true) by
    obtain ⟨v, h', e, rfl⟩ := w
    exact ⟨h', e, trivial⟩
  refine WPc.post fun Ψ hΨ => ?_
  refine WPc.intro (e := e4) rfl (by simp [e4]) ?_
  show WPk C b4 _ _ (KR [.tmp 4] _)
  simp [wpk_skip, wpk_seq, k_cond, wpk_block, wpk_exit, wpk_ret, wpk_loop, k_ops, k_draw0, t_nil, t_cons, KT_eq, KD_eq, wpo_nil, k_cons, k_step, mt_some, mtk_some, KO_eq, KP_eq, K_normal, K_ret, K_exit, KB_normal, KB_ret, KB_exit, KL_normal, KL_ret, KL_exit, k_ret, k_normal, stepE, isCall, calleeE, opE, wantE, odE, odS, odL, odSL, fget, fput, initE, keepF, List.map_cons, List.map_nil, binE, intOp, strOp, shOp, unE, eqpE, eqnE, neqB, ressE, resE, packL, packE, flat1, fcells, fillE, setL, cellsOf_bind, cellsO_own, cellsO_ro, lenE_sl, lenE_nils, lenE_sl0, bound, rep, minE, maxE, List.getElem?_cons_zero, List.getElem?_cons_succ, get_lt, set_lt, get_len, get_len_add, set_len, set_len_add, List.append_assoc, List.cons_append, List.nil_append, -getElem?_pos, b4, s4_1]
  refine WPc.go (register13_ok ha.rd fun z hz' => lit_64 (hz z hz')) ?_
  rintro _ h1 ⟨g1, i, w, rows, rfl, hge, hi, ow, g⟩
  have li := lt_of_some hi
  have hl := g.len
  have hn8 : rows.length * 8 ≤ 140737488355328 := by omega
  simp [wpk_skip, wpk_seq, k_cond, wpk_block, wpk_exit, wpk_ret, wpk_loop, k_ops, k_draw0, t_nil, t_cons, KT_eq, KD_eq, wpo_nil, k_cons, k_step, mt_some, mtk_some, KO_eq, KP_eq, K_normal, K_ret, K_exit, KB_normal, KB_ret, KB_exit, KL_normal, KL_ret, KL_exit, k_ret, k_normal, stepE, isCall, calleeE, opE, wantE, odE, odS, odL, odSL, fget, fput, initE, keepF, List.map_cons, List.map_nil, binE, intOp, strOp, shOp, unE, eqpE, eqnE, neqB, ressE, resE, packL, packE, flat1, fcells, fillE, setL, cellsOf_bind, cellsO_own, cellsO_ro, lenE_sl, lenE_nils, lenE_sl0, bound, rep, minE, maxE, List.getElem?_cons_zero, List.getElem?_cons_succ, get_lt, set_lt, get_len, get_len_add, set_len, set_len_add, List.append_assoc, List.cons_append, List.nil_append, -getElem?_pos, hi, li, ow.len, s4_2, s4_3, s4_4, hn8]
  rw [rep_int]
  have gO : Gr h0 (h1 ++ [LO.own 3 ((List.replicate rows.length (0 : Int)).flatMap encI)]) := g1.app _
  have oR0 : Ow h0.length (h1 ++ [LO.own 3 ((List.replicate rows.length (0 : Int)).flatMap encI)]) 3 encI (.sl h1.length 0 0 rows.length) (List.replicate rows.length 0) := .inr ⟨h1.length, g1.le, by simp, get_len⟩
  have oW0 := ow.gr (Gr.self h1 [LO.own 3 ((List.replicate rows.length (0 : Int)).flatMap encI)])
  generalize h1 ++ [LO.own 3 ((List.replicate rows.length (0 : Int)).flatMap encI)] = H2 at *
  generalize hrv : SV.sl h1.length 0 0 rows.length = rv at *
  refine WPl.post (fun x fr' h' => x = .exit 0 ∧ Gr h0 h' ∧ ∃ (L : List Bu) (R : List Int), Rd h' 30 3 encB w L ∧ Rd h' 3 1 encI rv R ∧ L.length = rows.length ∧ R.length = rows.length ∧ (∀ b ∈ L, -1000000 ≤ b.a ∧ b.a ≤ 1000000) ∧ (∀ r ∈ R, 0 ≤ r ∧ r ≤ 1000000) ∧
      fr' = [(5, some (.s w)), (6, some (.s rv)), (7, some (.s (.int .i64 (-dots L R))))]) (fun Φ hΦ => ?_) ?_
  · refine WPl.inv2 (fun m fr h' => Gr h0 h' ∧ ∃ (k : Nat) (L : List Bu) (R : List Int), k ≤ rows.length ∧ m = rows.length - k ∧ L.length = rows.length ∧ R.length = rows.length ∧ Ow h0.length h' 30 encB w L ∧ Ow h0.length h' 3 encI rv R ∧ L.drop k = rows.drop k ∧
      (∀ b ∈ L.take k, -1000000 ≤ b.a ∧ b.a ≤ 1000000) ∧ (∀ r ∈ R.take k, 0 ≤ r ∧ r ≤ 1000000) ∧ -1000000000000 * (k : Int) ≤ dots (L.take k) (R.take k) ∧ dots (L.take k) (R.take k) ≤ 1000000000000 * k ∧
      fr = [(1, some (.s bv)), (5, some (.s w)), (6, some (.s rv)), (7, some (.s (.int .i64 (-dots (L.take k) (R.take k))))), (21, some (.s w)), (22, some (.s (.int .i64 rows.length))), (23, some (.s (.int .i64 k)))]) ?_ _ _ _ ⟨gO, 0, rows, List.replicate rows.length 0, Nat.zero_le _, rfl, rfl, by simp, oW0, oR0, rfl, by simp, by simp, by simp [dots], by simp [dots], by simp [dots]⟩
    rintro I hI m fr h' ⟨gr, k, L, R, hk, rfl, hL, hR, oW, oR, hd, bL, bR, d0, d1, rfl⟩
    refine ⟨by simp [keepF, fget], ?_⟩
    by_cases hlt : k < rows.length
    · have kL : k < L.length := by omega
      have kR : k < R.length := by omega
      have w3 : IntKind.i64.wrap ((k : Int) + 1) = ((k + 1 : Nat) : Int) := wrap_small (by omega) (by omega)
      obtain ⟨j1, u1, u2, u3, u4, u5⟩ := Ow.amt_at oW kL
      obtain ⟨j2, z1, z2, z3, z4⟩ := oR.int_at kR
      have hj : j1 ≠ j2 := fun e => by
        subst e
        rw [u3] at z3
        simp only [Option.some.injEq, LO.own.injEq] at z3
        exact absurd z3.1 (by decide)
      have l1 := lt_of_some u3
      have l2 := lt_of_some z3
      have c4 := flat_at encB_len L k kL
      have c3 : k * 3 + 3 ≤ (L.flatMap encB).length := by omega
      simp only [encB] at c4
      have hrow : L[k] = rows[k] := by
        have e1 := List.drop_eq_getElem_cons kL
        have e2 := List.drop_eq_getElem_cons hlt
        rw [hd, e2] at e1
        exact ((List.cons.inj e1).1).symm
      have hx := g.mon _ (List.getElem_mem hlt)
      rw [← hrow] at hx
      generalize hc : L[k].a = x at *
      obtain ⟨q, hq⟩ : ∃ q, q = x.tmod 1000000 + 1 := ⟨_, rfl⟩
      have t1 := Int.tmod_lt_of_pos x (show (0 : Int) < 1000000 by omega)
      have t2 := Int.lt_tmod_of_pos x (show (0 : Int) < 1000000 by omega)
      have wq : IntKind.i64.wrap (x.tmod 1000000 + 1) = q := by rw [hq]; exact wrap_small (by omega) (by omega)
      have bq : -1000000 ≤ q ∧ q ≤ 1000000 := by omega
      have hdr : (L.set k ⟨L[k].c, L[k].y, q⟩).drop (k + 1) = rows.drop (k + 1) := by
        rw [List.drop_set_of_lt (by omega)]
        have := congrArg (List.drop 1) hd
        simpa using this
      have hLt : (L.set k ⟨L[k].c, L[k].y, q⟩).take (k + 1) = L.take k ++ [⟨L[k].c, L[k].y, q⟩] := by
        rw [List.take_succ_eq_append_getElem (by simpa using kL), List.take_set_of_le (by omega)]; simp
      have fin : ∀ (r : Int) (fr0 : Fr) (hh : LH), 0 ≤ r ∧ r ≤ 1000000 → Gr h0 hh → Ow h0.length hh 30 encB w (L.set k ⟨L[k].c, L[k].y, q⟩) → Ow h0.length hh 3 encI rv (R.set k r) →
          fr0 = [(1, some (.s bv)), (5, some (.s w)), (6, some (.s rv)), (7, some (.s (.int .i64 (-(dots (L.take k) (R.take k) + q * r))))), (21, some (.s w)), (22, some (.s (.int .i64 rows.length))), (23, some (.s (.int .i64 ((k + 1 : Nat) : Int))))] → ∃ m, m < rows.length - k ∧ I m fr0 hh := by
        intro r fr0 hh hr0 gh ol oRr hfr
        have hRt : (R.set k r).take (k + 1) = R.take k ++ [r] := by
          rw [List.take_succ_eq_append_getElem (by simpa using kR), List.take_set_of_le (by omega)]; simp
        have hds : dots ((L.set k ⟨L[k].c, L[k].y, q⟩).take (k + 1)) ((R.set k r).take (k + 1)) = dots (L.take k) (R.take k) + q * r := by
          rw [hLt, hRt, dots_snoc _ _ _ _ (by simp; omega)]
        have x1 := mul_bounds (n := q) (r := r) (N := 1000000) (R := 1000000) (by omega) hr0 (by omega)
        refine ⟨rows.length - (k + 1), by omega, hI _ _ _ ⟨gh, k + 1, _, _, hlt, rfl, by simp [hL], by simp [hR], ol, oRr, hdr, ?_, ?_, by rw [hds]; omega, by rw [hds]; omega, by rw [hds]; exact hfr⟩⟩
        · rw [hLt]
          intro b hb'
          rcases List.mem_append.1 hb' with hb' | hb'
          · exact bL b hb'
          · rw [List.mem_singleton.1 hb']; exact bq
        · rw [hRt]
          intro b hb'
          rcases List.mem_append.1 hb' with hb' | hb'
          · exact bR b hb'
          · rw [List.mem_singleton.1 hb']; exact hr0
      have gq : ∀ y : SV, ((L.flatMap encB).set (k * 3 + 2) y)[k * 3 + 2]? = some y := fun y => List.getElem?_set_self (by omega)
      have gr' : ∀ y : SV, ((R.map (SV.int .i64)).set k y)[k]? = some y := fun y => List.getElem?_set_self (by simp; omega)
      have lR : k + 1 ≤ R.length := by omega
      have hset : ∀ y : Int, ∀ X : LO, ∀ Z : LO, (((h'.set j1 (.own 30 ((L.flatMap encB).set (k * 3 + 2) (.int .i64 q)))).set j2 (.own 3 ((R.map (SV.int .i64)).set k (.int .i64 y)))) ++ [X])[j1]? = some (.own 30 ((L.flatMap encB).set (k * 3 + 2) (.int .i64 q))) := by
        intro y X Z
        rw [get_lt (by simpa using l1), get_ne (Ne.symm hj), get_self l1]
      have oW1 := u5 q
      have i64 : ∀ y, Ow h0.length (((h'.set j1 (.own 30 ((L.flatMap encB).set (k * 3 + 2) (.int .i64 q)))).set j2 (.own 3 ((R.map (SV.int .i64)).set k (.int .i64 y))))) 30 encB w (L.set k ⟨L[k].c, L[k].y, q⟩) := by
        intro y
        rw [u2]
        refine .inr ⟨j1, u1, by simp, ?_⟩
        rw [get_ne (Ne.symm hj), get_self l1, flatB_set L k kL]
      have i3 : ∀ y, Ow h0.length (((h'.set j1 (.own 30 ((L.flatMap encB).set (k * 3 + 2) (.int .i64 q)))).set j2 (.own 3 ((R.map (SV.int .i64)).set k (.int .i64 y))))) 3 encI rv (R.set k y) := by
        intro y
        rw [z2]
        refine .inr ⟨j2, z1, by simp, ?_⟩
        rw [get_self (by simpa using l2), encI_flat, List.map_set]
      have gg : ∀ y, Gr h0 (((h'.set j1 (.own 30 ((L.flatMap encB).set (k * 3 + 2) (.int .i64 q)))).set j2 (.own 3 ((R.map (SV.int .i64)).set k (.int .i64 y))))) := fun y => (gr.set _ u1).set _ z1
      have fin2 : ∀ (r : Int) (X : LO) (fr0 : Fr), 0 ≤ r ∧ r ≤ 1000000 → fr0 = _ → ∃ m, m < rows.length - k ∧ I m fr0 (((h'.set j1 (.own 30 ((L.flatMap encB).set (k * 3 + 2) (.int .i64 q)))).set j2 (.own 3 ((R.map (SV.int .i64)).set k (.int .i64 r)))) ++ [X]) :=
        fun r X fr0 hr hfr => fin r fr0 _ hr ((gg r).app _) ((i64 r).gr (Gr.self _ _)) ((i3 r).gr (Gr.self _ _)) hfr
      have hsub : ∀ r, 0 ≤ r ∧ r ≤ 1000000 → IntKind.i64.wrap (q * r) = q * r ∧ IntKind.i64.wrap (-dots (L.take k) (R.take k) - q * r) = -(dots (L.take k) (R.take k) + q * r) := by
        intro r hr
        have x1 := mul_bounds (n := q) (r := r) (N := 1000000) (R := 1000000) (by omega) hr (by omega)
        refine ⟨wrap_small (by omega) (by omega), ?_⟩
        rw [wrap_small (by omega) (by omega)]; omega
      generalize dots (L.take k) (R.take k) = dd at *
      generalize L.flatMap encB = VS at *
      subst u2
      have hrv' := hrv
      subst hrv
      simp only [SV.sl.injEq] at z2
      obtain ⟨rfl, -⟩ := z2
      have hlen0 : (SV.sl h1.length 0 0 rows.length) = SV.sl h1.length 0 0 R.length := by rw [hR]
      have kL' : k < L.length := kL
      by_cases hko : k < os.length
      · obtain ⟨jo, po, qo, obo, vso, rfl, s1, s2, s3⟩ := hb.rd.int hko
        have lo := lt_of_some s1
        have s1' := gr.get s1
        have lo' := lt_of_some s1'
        have n1 : j1 ≠ jo := by omega
        have n2 : h1.length ≠ jo := by have := g1.le; omega
        have y1 := fun h => within_ok os[k] 1000001 (by omega) h
        have r1 : 0 ≤ os[k] % 1000001 ∧ os[k] % 1000001 ≤ 1000000 := by omega
        generalize os[k] % 1000001 = r at y1 r1
        have w1 := (hsub r r1).1
        have w2 := (hsub r r1).2
        simp [wpk_skip, wpk_seq, k_cond, wpk_block, wpk_exit, wpk_ret, wpk_loop, k_ops, k_draw0, t_nil, t_cons, KT_eq, KD_eq, wpo_nil, k_cons, k_step, mt_some, mtk_some, KO_eq, KP_eq, K_normal, K_ret, K_exit, KB_normal, KB_ret, KB_exit, KL_normal, KL_ret, KL_exit, k_ret, k_normal, stepE, isCall, calleeE, opE, wantE, odE, odS, odL, odSL, fget, fput, initE, keepF, List.map_cons, List.map_nil, binE, intOp, strOp, shOp, unE, eqpE, eqnE, neqB, ressE, resE, packL, packE, flat1, fcells, fillE, setL, cellsOf_bind, cellsO_own, cellsO_ro, lenE_sl, lenE_nils, lenE_sl0, bound, rep, minE, maxE, List.getElem?_cons_zero, List.getElem?_cons_succ, get_lt, set_lt, get_len, get_len_add, set_len, set_len_add, List.append_assoc, List.cons_append, List.nil_append, -getElem?_pos, l4_0_2, l4_0_1, l4_0, hlt, kL, kR, u3, l1, l2, c3, c4, u4, wq, z3, hj, Ne.symm hj, get_ne, get_self, gq, gr', lR, hko, s1', s2, s3, lo', n1, n2, y1, w1, w2, w3, List.set_set]
        exact fin2 r _ _ r1 rfl
      · have w1 := (hsub 123456 (by omega)).1
        have w2 := (hsub 123456 (by omega)).2
        have obl := hb.rd.len
        simp [wpk_skip, wpk_seq, k_cond, wpk_block, wpk_exit, wpk_ret, wpk_loop, k_ops, k_draw0, t_nil, t_cons, KT_eq, KD_eq, wpo_nil, k_cons, k_step, mt_some, mtk_some, KO_eq, KP_eq, K_normal, K_ret, K_exit, KB_normal, KB_ret, KB_exit, KL_normal, KL_ret, KL_exit, k_ret, k_normal, stepE, isCall, calleeE, opE, wantE, odE, odS, odL, odSL, fget, fput, initE, keepF, List.map_cons, List.map_nil, binE, intOp, strOp, shOp, unE, eqpE, eqnE, neqB, ressE, resE, packL, packE, flat1, fcells, fillE, setL, cellsOf_bind, cellsO_own, cellsO_ro, lenE_sl, lenE_nils, lenE_sl0, bound, rep, minE, maxE, List.getElem?_cons_zero, List.getElem?_cons_succ, get_lt, set_lt, get_len, get_len_add, set_len, set_len_add, List.append_assoc, List.cons_append, List.nil_append, -getElem?_pos, l4_0_2, l4_0_1, l4_0, hlt, kL, kR, u3, l1, l2, c3, c4, u4, wq, z3, hj, Ne.symm hj, get_ne, get_self, gq, gr', lR, obl, hko, w1, w2, w3]
        exact fin2 123456 _ _ (by omega) rfl
    · obtain rfl : k = rows.length := by omega
      rw [List.take_of_length_le (by omega)] at bL
      rw [List.take_of_length_le (by omega)] at bR
      have e1 : L.take rows.length = L := List.take_of_length_le (by omega)
      have e2 : R.take rows.length = R := List.take_of_length_le (by omega)
      simp [wpk_skip, wpk_seq, k_cond, wpk_block, wpk_exit, wpk_ret, wpk_loop, k_ops, k_draw0, t_nil, t_cons, KT_eq, KD_eq, wpo_nil, k_cons, k_step, mt_some, mtk_some, KO_eq, KP_eq, K_normal, K_ret, K_exit, KB_normal, KB_ret, KB_exit, KL_normal, KL_ret, KL_exit, k_ret, k_normal, stepE, isCall, calleeE, opE, wantE, odE, odS, odL, odSL, fget, fput, initE, keepF, List.map_cons, List.map_nil, binE, intOp, strOp, shOp, unE, eqpE, eqnE, neqB, ressE, resE, packL, packE, flat1, fcells, fillE, setL, cellsOf_bind, cellsO_own, cellsO_ro, lenE_sl, lenE_nils, lenE_sl0, bound, rep, minE, maxE, List.getElem?_cons_zero, List.getElem?_cons_succ, get_lt, set_lt, get_len, get_len_add, set_len, set_len_add, List.append_assoc, List.cons_append, List.nil_append, -getElem?_pos, l4_0_2, l4_0_1, l4_0, hlt]
      exact hΦ _ _ _ ⟨rfl, gr, L, R, oW.rd encB_len, oR.rd encI_len, hL, hR, bL, bR, by rw [e1, e2]⟩
  · rintro x fr' h3 ⟨rfl, g3, L, R, rL, rR, hL, hR, bL, bR, rfl⟩
    simp [wpk_skip, wpk_seq, k_cond, wpk_block, wpk_exit, wpk_ret, wpk_loop, k_ops, k_draw0, t_nil, t_cons, KT_eq, KD_eq, wpo_nil, k_cons, k_step, mt_some, mtk_some, KO_eq, KP_eq, K_normal, K_ret, K_exit, KB_normal, KB_ret, KB_exit, KL_normal, KL_ret, KL_exit, k_ret, k_normal, stepE, isCall, calleeE, opE, wantE, odE, odS, odL, odSL, fget, fput, initE, keepF, List.map_cons, List.map_nil, binE, intOp, strOp, shOp, unE, eqpE, eqnE, neqB, ressE, resE, packL, packE, flat1, fcells, fillE, setL, cellsOf_bind, cellsO_own, cellsO_ro, lenE_sl, lenE_nils, lenE_sl0, bound, rep, minE, maxE, List.getElem?_cons_zero, List.getElem?_cons_succ, get_lt, set_lt, get_len, get_len_add, set_len, set_len_add, List.append_assoc, List.cons_append, List.nil_append, -getElem?_pos, s4_5]
    refine WPc.go (temp_ok rL rR (by omega) (by omega)) ?_
    rintro _ h4 ⟨g4, rfl⟩
    obtain ⟨n, t1, t2, t3⟩ := temp_near L R 0 (by omega) bL bR (by omega)
    have t4 : tempF L R = (n, 0) := by unfold tempF; rw [if_neg (by omega), t1]
    rw [t4]
    have dB : ∀ (bs : List Bu) (rs : List Int), (∀ b ∈ bs, -1000000 ≤ b.a ∧ b.a ≤ 1000000) → (∀ r ∈ rs, 0 ≤ r ∧ r ≤ 1000000) → -1000000000000 * (bs.length : Int) ≤ dots bs rs ∧ dots bs rs ≤ 1000000000000 * bs.length := by
      intro bs
      induction bs with
      | nil => intro rs _ _; simp [dots]
      | cons b bs ih =>
        intro rs hb hr
        cases rs with
        | nil => simp only [dots, List.length_cons]; omega
        | cons r rs =>
          have i := ih rs (fun x hx => hb x (List.mem_cons_of_mem _ hx)) (fun x hx => hr x (List.mem_cons_of_mem _ hx))
          have x1 := mul_bounds (n := b.a) (r := r) (N := 1000000) (R := 1000000) (hb b List.mem_cons_self) (hr r List.mem_cons_self) (by omega)
          simp only [dots, List.length_cons]; omega
    have d0 := dB L R bL bR
    have wl := rL.len
    have hll : (L.length : Int) = rows.length := by omega
    generalize dots L R = dd at *
    have v1 : IntKind.i64.wrap (n * 1000000) = n * 1000000 := wrap_small (by omega) (by omega)
    have v2 : IntKind.i64.wrap (n * 1000000 - -dd) = n * 1000000 + dd := by rw [wrap_small (by omega) (by omega)]; omega
    have v2' : IntKind.i64.wrap (n * 1000000 + dd) = n * 1000000 + dd := wrap_small (by omega) (by omega)
    have v3 : IntKind.i64.wrap (2 * (n * 1000000 + dd)) = 2 * (n * 1000000 + dd) := wrap_small (by omega) (by omega)
    have v4 : IntKind.i64.wrap (1000000 * (L.length : Int)) = 1000000 * (L.length : Int) := wrap_small (by omega) (by omega)
    have v5 : IntKind.i64.wrap (-1000000 * (L.length : Int)) = -1000000 * (L.length : Int) := wrap_small (by omega) (by omega)
    have v6 : 2 * (n * 1000000 + dd) ≤ 1000000 * (L.length : Int) := by omega
    have v7 : -1000000 * (L.length : Int) ≤ 2 * (n * 1000000 + dd) := by omega
    simp [wpk_skip, wpk_seq, k_cond, wpk_block, wpk_exit, wpk_ret, wpk_loop, k_ops, k_draw0, t_nil, t_cons, KT_eq, KD_eq, wpo_nil, k_cons, k_step, mt_some, mtk_some, KO_eq, KP_eq, K_normal, K_ret, K_exit, KB_normal, KB_ret, KB_exit, KL_normal, KL_ret, KL_exit, k_ret, k_normal, stepE, isCall, calleeE, opE, wantE, odE, odS, odL, odSL, fget, fput, initE, keepF, List.map_cons, List.map_nil, binE, intOp, strOp, shOp, unE, eqpE, eqnE, neqB, ressE, resE, packL, packE, flat1, fcells, fillE, setL, cellsOf_bind, cellsO_own, cellsO_ro, lenE_sl, lenE_nils, lenE_sl0, bound, rep, minE, maxE, List.getElem?_cons_zero, List.getElem?_cons_succ, get_lt, set_lt, get_len, get_len_add, set_len, set_len_add, List.append_assoc, List.cons_append, List.nil_append, -getElem?_pos, s4_6, s4_7, v1, v2, v2', v3, wl, v4, v5, v6, v7]
    refine WPc.go (mwakes_ok _) ?_
    rintro _ hz ⟨_, rfl⟩
    simp [wpk_skip, wpk_seq, k_cond, wpk_block, wpk_exit, wpk_ret, wpk_loop, k_ops, k_draw0, t_nil, t_cons, KT_eq, KD_eq, wpo_nil, k_cons, k_step, mt_some, mtk_some, KO_eq, KP_eq, K_normal, K_ret, K_exit, KB_normal, KB_ret, KB_exit, KL_normal, KL_ret, KL_exit, k_ret, k_normal, stepE, isCall, calleeE, opE, wantE, odE, odS, odL, odSL, fget, fput, initE, keepF, List.map_cons, List.map_nil, binE, intOp, strOp, shOp, unE, eqpE, eqnE, neqB, ressE, resE, packL, packE, flat1, fcells, fillE, setL, cellsOf_bind, cellsO_own, cellsO_ro, lenE_sl, lenE_nils, lenE_sl0, bound, rep, minE, maxE, List.getElem?_cons_zero, List.getElem?_cons_succ, get_lt, set_lt, get_len, get_len_add, set_len, set_len_add, List.append_assoc, List.cons_append, List.nil_append, -getElem?_pos, ]
    exact hΨ _ _ rfl
end Go.Proofs.Ytcimcccnhbbncaa.Ev.CE
