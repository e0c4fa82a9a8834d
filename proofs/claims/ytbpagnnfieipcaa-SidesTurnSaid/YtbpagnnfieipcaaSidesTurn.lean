/- SidesTurn on the small machine. -/
import Derived.Test.YtbpagnnfieipcaaSidesGreat
import Derived.Test.YtbpagnnfieipcaaEvRow
set_option linter.unusedSimpArgs false
set_option linter.unusedVariables false
namespace Go.Proofs.Ytbpagnnfieipcaa.Ev.CT
open Go

/-- Two lists that are not of one object. -/
def Apart (v v' : SV) : Prop := ∀ i p o n p' o' n', v = .sl i p o n → v' ≠ .sl i p' o' n'
theorem Apart.symm {v v' : SV} (a : Apart v v') : Apart v' v := fun i p o n p' o' n' h h' => a i p' o' n' p o n h' h
theorem Apart.nils (v : SV) : Apart .nils v := fun i p o n p' o' n' h => by cases h
theorem Ow.apart_new {α : Type} {enc : α → List SV} {b t m : Nat} {h : LH} {v : SV} {l : List α} (r : Ow b h t enc v l) (hm : h.length ≤ m) (p o n : Nat) : Apart (.sl m p o n) v := by
  intro i p o n p' o' n' e e'
  cases e
  rcases r with ⟨_, e⟩ | ⟨j, _, e, r3⟩
  · rw [e] at e'; cases e'
  · rw [e] at e'
    cases e'
    have := lt_of_some r3
    omega
theorem Ow.kill_apart {α β : Type} {enc : α → List SV} {enc' : β → List SV} {b b' t t' : Nat} {h : LH} {v v' : SV} {l : List α} {l' : List β} (r : Ow b h t enc v l) (r' : Ow b' h t' enc' v' l') (ap : Apart v v') (q s : LH) : Ow b' (kill v (h ++ q) ++ s) t' enc' v' l' := by
  have r2 := r'.gr (Gr.self h q)
  rcases r with ⟨_, rfl⟩ | ⟨j, _, rfl, r3⟩
  · exact r2.gr (Gr.self (h ++ q) s)
  · have := r2.set2 (i := j) (fun p o n e => ap _ _ _ _ _ _ _ rfl e) .dead
    exact this.gr (Gr.self _ s)


def swp (l : List (Nat × Nat)) : List (Nat × Nat) := l.map fun p => (p.2, p.1)
theorem s_swp (l : List (Nat × Nat)) : s1 (swp l) = s2 l ∧ s2 (swp l) = s1 l := by
  simp only [s1, s2, swp, List.map_map]
  exact ⟨rfl, rfl⟩

set_option maxRecDepth 20000 in
set_option maxHeartbeats 8000000 in
theorem sidesTurn_ok {h0 : LH} {av : SV} {zs : List Int} (ha : IntA h0 3 av zs) : ∃ h', callX C 14 [.s av] h0 = some (.s (.bool true), h') ∧ True := by
  suffices w : WPc C 14 [.s av] h0 fun u _ => u = .s (.bool true) by
    obtain ⟨v, h', e, rfl⟩ := w
    exact ⟨h', e, trivial⟩
  refine WPc.post fun Ψ hΨ => ?_
  refine WPc.intro (e := e14) rfl (by simp [e14]) ?_
  show WPk C b14 _ _ (KR [.tmp 2] _)
  simp [wpk_skip, wpk_seq, k_cond, wpk_block, wpk_exit, wpk_ret, wpk_loop, k_ops, k_draw0, t_nil, t_cons, KT_eq, KD_eq, wpo_nil, k_cons, k_step, mt_some, mtk_some, KO_eq, KP_eq, K_normal, K_ret, K_exit, KB_normal, KB_ret, KB_exit, KL_normal, KL_ret, KL_exit, k_ret, k_normal, stepE, isCall, calleeE, opE, wantE, odE, odS, odL, odSL, fget, fput, initE, keepF, List.map_cons, List.map_nil, binE, intOp, strOp, shOp, unE, eqpE, eqnE, neqB, ressE, resE, packL, packE, flat1, fcells, fillE, setL, cellsOf_bind, cellsO_own, cellsO_ro, lenE_sl, lenE_nils, lenE_sl0, bound, rep, minE, maxE, List.getElem?_cons_zero, List.getElem?_cons_succ, get_lt, set_lt, get_len, get_len_add, set_len, set_len_add, List.append_assoc, List.cons_append, List.nil_append, -getElem?_pos, b14, s14_1, s14_2]
  refine WPl.post (fun x fr' h' => x = .exit 0 ∧ ∃ (v3 v4 : SV) (P : List (Nat × Nat)), fr' = [(3, some (.s v3)), (4, some (.s v4))] ∧ Ow h0.length h' 36 encC v3 P ∧ Ow h0.length h' 36 encC v4 (swp P) ∧ P.length ≤ 30 ∧ s1 P ≤ 100000000000 * P.length ∧ s2 P ≤ 100000000000 * P.length) (fun Φ hΦ => ?_) ?_
  · refine WPl.inv2 (fun q fr h' => ∃ (k : Nat) (v3 v4 : SV) (P : List (Nat × Nat)), k ≤ 30 ∧ q = 30 - k ∧ Gr h0 h' ∧ Ow h0.length h' 36 encC v3 P ∧ Ow h0.length h' 36 encC v4 (swp P) ∧ Apart v3 v4 ∧ P.length = k ∧ s1 P ≤ 100000000000 * P.length ∧ s2 P ≤ 100000000000 * P.length ∧
      fr = [(0, some (.s av)), (3, some (.s v3)), (4, some (.s v4)), (5, some (.s (.int .i64 k)))]) ?_ _ _ _ ⟨0, .nils, .nils, [], Nat.zero_le _, rfl, Gr.refl _, Ow.nil _ _, Ow.nil _ _, Apart.nils _, by simp, by simp [s1], by simp [s2], by simp⟩
    rintro I hI q fr h' ⟨k, v3, v4, P, hk, rfl, gr, o3, o4, ap, lP, b1, b2, rfl⟩
    refine ⟨by simp [keepF, fget], ?_⟩
    have rr := ha.rd.gr gr
    have rl := rr.len
    by_cases hlt : k < zs.length
    · by_cases h30 : k < 30
      · have h30' : (k : Int) < 30 := by omega
        obtain ⟨j, p, o, ob, vs, rfl, q2, q3, q4⟩ := rr.int hlt
        have q5 := lt_of_some q2
        have y1 := fun h => within_ok zs[k] 200000000001 (by omega) h
        have by1 : 0 ≤ zs[k] % 200000000001 ∧ zs[k] % 200000000001 < 200000000001 := by omega
        generalize zs[k] % 200000000001 = x at y1 by1
        obtain ⟨n, hn⟩ : ∃ n, n = x - 100000000000 := ⟨_, rfl⟩
        have w1 : IntKind.i64.wrap (x - 100000000000) = n := by rw [hn]; exact wrap_small (by omega) (by omega)
        have w3 : IntKind.i64.wrap ((k : Int) + 1) = ((k + 1 : Nat) : Int) := wrap_small (by omega) (by omega)
        have a2 := fun h => of_ok n h
        have bo := ofP_bound n
        have ss := s_snoc P (ofP n)
        generalize ofP n = O at *
        obtain ⟨d, c⟩ := O
        simp only at a2 bo ss
        have tn1 := fun h => turn_ok (fl d) (fl c) h
        have tn2 := fun h => turn_ok (fl c) (fl d) h
        have hA := o3.app1 (y := 16) encC_len (by omega) [LO.own 36 [cx d c]] [cx d c]
        obtain ⟨f1, f2⟩ := Ow.step gr o3 (d, c) [LO.own 36 [cx d c]] (n := P.length + 1) (cs := [cx d c]) (m := 1) rfl rfl rfl
        have g6 := Ow.kill_apart o3 o4 ap [LO.own 36 [cx d c]] [.own 36 (P.flatMap encC ++ [cx d c])]
        have ap2 : Apart (.sl (h'.length + 1) 0 0 (P.length + 1)) v4 := Ow.apart_new o4 (by omega) _ _ _
        obtain ⟨H1, hH⟩ : ∃ H1, H1 = kill v3 (h' ++ [LO.own 36 [cx d c]]) ++ [.own 36 (P.flatMap encC ++ [cx d c])] := ⟨_, rfl⟩
        rw [← hH] at f1 f2 g6 hA
        have lS : (swp P).length = P.length := by simp [swp]
        have hB := g6.app1 (y := 16) encC_len (by omega) [LO.own 36 [cx c d]] [cx c d]
        obtain ⟨f3, f4⟩ := Ow.step f1 g6 (c, d) [LO.own 36 [cx c d]] (n := (swp P).length + 1) (cs := [cx c d]) (m := 1) rfl rfl rfl
        have g5 := Ow.kill_apart g6 f2 ap2.symm [LO.own 36 [cx c d]] [.own 36 ((swp P).flatMap encC ++ [cx c d])]
        have ap3 : Apart (.sl (H1.length + 1) 0 0 ((swp P).length + 1)) (.sl (h'.length + 1) 0 0 (P.length + 1)) := Ow.apart_new f2 (by omega) _ _ _
        have sw : swp P ++ [(c, d)] = swp (P ++ [(d, c)]) := by simp [swp]
        rw [sw] at f4
        have l5 := o3.len
        have l6 := o4.len
        have ne1 := cpl_neq (a := d) (b := c) (c := d) (d := c) (by omega) (by omega) (by omega) (by omega)
        have nt1 := fun h => net_ok (d := d) (c := c) (by omega) (by omega) h
        have nt2 := fun h => net_ok (d := c) (c := d) (by omega) (by omega) h
        have ev1 := fun h => even_ok (d := d + c) (c := c + d) (by omega) (by omega) h
        rw [decide_eq_true (show d + c = c + d by omega)] at ev1
        have w5 : IntKind.i64.wrap (-((d : Int) - (c : Int))) = (c : Int) - (d : Int) := by rw [wrap_small (by omega) (by omega)]; omega
        have hl2 : (P ++ [(d, c)]).length = P.length + 1 := by simp
        simp only [cx] at *
        simp [wpk_skip, wpk_seq, k_cond, wpk_block, wpk_exit, wpk_ret, wpk_loop, k_ops, k_draw0, t_nil, t_cons, KT_eq, KD_eq, wpo_nil, k_cons, k_step, mt_some, mtk_some, KO_eq, KP_eq, K_normal, K_ret, K_exit, KB_normal, KB_ret, KB_exit, KL_normal, KL_ret, KL_exit, k_ret, k_normal, stepE, isCall, calleeE, opE, wantE, odE, odS, odL, odSL, fget, fput, initE, keepF, List.map_cons, List.map_nil, binE, intOp, strOp, shOp, unE, eqpE, eqnE, neqB, ressE, resE, packL, packE, flat1, fcells, fillE, setL, cellsOf_bind, cellsO_own, cellsO_ro, lenE_sl, lenE_nils, lenE_sl0, bound, rep, minE, maxE, List.getElem?_cons_zero, List.getElem?_cons_succ, get_lt, set_lt, get_len, get_len_add, set_len, set_len_add, List.append_assoc, List.cons_append, List.nil_append, -getElem?_pos, l14_0_1, l14_0, rl, hlt, h30, h30', q2, q3, q4, q5, y1, w1, a2, elems, l5, l6, hA, tn1]
        generalize P.flatMap encC = PF at *
        generalize (swp P).flatMap encC = SF at *
        simp [wpk_skip, wpk_seq, k_cond, wpk_block, wpk_exit, wpk_ret, wpk_loop, k_ops, k_draw0, t_nil, t_cons, KT_eq, KD_eq, wpo_nil, k_cons, k_step, mt_some, mtk_some, KO_eq, KP_eq, K_normal, K_ret, K_exit, KB_normal, KB_ret, KB_exit, KL_normal, KL_ret, KL_exit, k_ret, k_normal, stepE, isCall, calleeE, opE, wantE, odE, odS, odL, odSL, fget, fput, initE, keepF, List.map_cons, List.map_nil, binE, intOp, strOp, shOp, unE, eqpE, eqnE, neqB, ressE, resE, packL, packE, flat1, fcells, fillE, setL, cellsOf_bind, cellsO_own, cellsO_ro, lenE_sl, lenE_nils, lenE_sl0, bound, rep, minE, maxE, List.getElem?_cons_zero, List.getElem?_cons_succ, get_lt, set_lt, get_len, get_len_add, set_len, set_len_add, List.append_assoc, List.cons_append, List.nil_append, -getElem?_pos, ← hH, elems, l6, hB, tn1, tn2, ne1]
        obtain ⟨K, hK⟩ : ∃ K, K = kill v4 (H1 ++ [LO.own 36 [SV.cpl .f64 (fl c) (fl d)]]) := ⟨_, rfl⟩
        rw [← hK] at f3 f4 g5 ⊢
        have z2 : ([(d, c), (c, d)] : List (Nat × Nat)).length < 1000000 := by simp
        have sm := sum_lit (h := K ++ [LO.own 36 (SF ++ [SV.cpl .f64 (fl c) (fl d)]), LO.own 36 [SV.cpl .f64 (fl d) (fl c), SV.cpl .f64 (fl c) (fl d)]]) (i := K.length + 1) (p := 0) (l := [(d, c), (c, d)]) (n := 2) rfl (by rw [get_len_add]; simp [encC, cx]) z2 (by simp [s1]; omega) (by simp [s2]; omega)
        have e1 : s1 [(d, c), (c, d)] = d + c := by simp [s1]
        have e2 : s2 [(d, c), (c, d)] = c + d := by simp [s2]
        rw [e1, e2] at sm
        simp only [cx] at sm
        have lK : K.length = H1.length + 1 := by rw [hK, kill_len, List.length_append]; rfl
        simp [wpk_skip, wpk_seq, k_cond, wpk_block, wpk_exit, wpk_ret, wpk_loop, k_ops, k_draw0, t_nil, t_cons, KT_eq, KD_eq, wpo_nil, k_cons, k_step, mt_some, mtk_some, KO_eq, KP_eq, K_normal, K_ret, K_exit, KB_normal, KB_ret, KB_exit, KL_normal, KL_ret, KL_exit, k_ret, k_normal, stepE, isCall, calleeE, opE, wantE, odE, odS, odL, odSL, fget, fput, initE, keepF, List.map_cons, List.map_nil, binE, intOp, strOp, shOp, unE, eqpE, eqnE, neqB, ressE, resE, packL, packE, flat1, fcells, fillE, setL, cellsOf_bind, cellsO_own, cellsO_ro, lenE_sl, lenE_nils, lenE_sl0, bound, rep, minE, maxE, List.getElem?_cons_zero, List.getElem?_cons_succ, get_lt, set_lt, get_len, get_len_add, set_len, set_len_add, List.append_assoc, List.cons_append, List.nil_append, -getElem?_pos, sm, ev1, tn1, nt1, nt2, w5, w3]
        have gL : Gr (K ++ [LO.own 36 (SF ++ [SV.cpl .f64 (fl c) (fl d)])]) (K ++ [LO.own 36 (SF ++ [SV.cpl .f64 (fl c) (fl d)]), LO.own 36 [SV.cpl .f64 (fl d) (fl c), SV.cpl .f64 (fl c) (fl d)]]) := by
          have := Gr.self (K ++ [LO.own 36 (SF ++ [SV.cpl .f64 (fl c) (fl d)])]) [LO.own 36 [SV.cpl .f64 (fl d) (fl c), SV.cpl .f64 (fl c) (fl d)]]
          rwa [List.append_assoc] at this
        refine ⟨_, by omega, hI _ _ _ ⟨k + 1, _, _, P ++ [(d, c)], by omega, rfl, f3.trans gL, ?_, ?_, ap3.symm, by omega, by rw [ss.1, hl2]; omega, by rw [ss.2, hl2]; omega, rfl⟩⟩
        · exact g5.gr gL
        · exact f4.gr gL
      · obtain rfl : k = 30 := by omega
        have hlt' : (30 : Int) < zs.length := by omega
        simp [wpk_skip, wpk_seq, k_cond, wpk_block, wpk_exit, wpk_ret, wpk_loop, k_ops, k_draw0, t_nil, t_cons, KT_eq, KD_eq, wpo_nil, k_cons, k_step, mt_some, mtk_some, KO_eq, KP_eq, K_normal, K_ret, K_exit, KB_normal, KB_ret, KB_exit, KL_normal, KL_ret, KL_exit, k_ret, k_normal, stepE, isCall, calleeE, opE, wantE, odE, odS, odL, odSL, fget, fput, initE, keepF, List.map_cons, List.map_nil, binE, intOp, strOp, shOp, unE, eqpE, eqnE, neqB, ressE, resE, packL, packE, flat1, fcells, fillE, setL, cellsOf_bind, cellsO_own, cellsO_ro, lenE_sl, lenE_nils, lenE_sl0, bound, rep, minE, maxE, List.getElem?_cons_zero, List.getElem?_cons_succ, get_lt, set_lt, get_len, get_len_add, set_len, set_len_add, List.append_assoc, List.cons_append, List.nil_append, -getElem?_pos, l14_0_1, l14_0, rl, hlt, hlt']
        exact hΦ _ _ _ ⟨rfl, v3, v4, P, rfl, o3, o4, by omega, b1, b2⟩
    · simp [wpk_skip, wpk_seq, k_cond, wpk_block, wpk_exit, wpk_ret, wpk_loop, k_ops, k_draw0, t_nil, t_cons, KT_eq, KD_eq, wpo_nil, k_cons, k_step, mt_some, mtk_some, KO_eq, KP_eq, K_normal, K_ret, K_exit, KB_normal, KB_ret, KB_exit, KL_normal, KL_ret, KL_exit, k_ret, k_normal, stepE, isCall, calleeE, opE, wantE, odE, odS, odL, odSL, fget, fput, initE, keepF, List.map_cons, List.map_nil, binE, intOp, strOp, shOp, unE, eqpE, eqnE, neqB, ressE, resE, packL, packE, flat1, fcells, fillE, setL, cellsOf_bind, cellsO_own, cellsO_ro, lenE_sl, lenE_nils, lenE_sl0, bound, rep, minE, maxE, List.getElem?_cons_zero, List.getElem?_cons_succ, get_lt, set_lt, get_len, get_len_add, set_len, set_len_add, List.append_assoc, List.cons_append, List.nil_append, -getElem?_pos, l14_0_1, l14_0, rl, hlt]
      exact hΦ _ _ _ ⟨rfl, v3, v4, P, rfl, o3, o4, by omega, b1, b2⟩
  · rintro x fr' h1 ⟨rfl, v3, v4, P, rfl, o3, o4, lP, b1, b2⟩
    have lS : (swp P).length = P.length := by simp [swp]
    have sw := s_swp P
    have sm1 := sum_ok (o3.rd encC_len) (by omega) (by omega) (by omega)
    have sm2 := sum_ok (o4.rd encC_len) (by omega) (by omega) (by omega)
    rw [sw.1, sw.2] at sm2
    have sm3 := sum_ok (h := h1) (v := .nils) (l := []) (.inl ⟨rfl, .inl rfl⟩) (by decide) (by decide) (by decide)
    rw [show s1 [] = 0 from rfl, show s2 [] = 0 from rfl] at sm3
    obtain ⟨d, hd⟩ : ∃ d, d = s1 P := ⟨_, rfl⟩
    obtain ⟨c, hc⟩ : ∃ c, c = s2 P := ⟨_, rfl⟩
    rw [← hd, ← hc] at sm1 sm2
    have tn := fun h => turn_ok (fl d) (fl c) h
    have ce := cpl_eql (a := c) (b := d) (c := c) (d := d) (by omega) (by omega) (by omega) (by omega)
    have c0 := cpl_eql (a := 0) (b := 0) (c := 0) (d := 0) (by omega) (by omega) (by omega) (by omega)
    have wk := fun h => wakes_ok h
    simp only [cx, fl_zero] at *
    simp [wpk_skip, wpk_seq, k_cond, wpk_block, wpk_exit, wpk_ret, wpk_loop, k_ops, k_draw0, t_nil, t_cons, KT_eq, KD_eq, wpo_nil, k_cons, k_step, mt_some, mtk_some, KO_eq, KP_eq, K_normal, K_ret, K_exit, KB_normal, KB_ret, KB_exit, KL_normal, KL_ret, KL_exit, k_ret, k_normal, stepE, isCall, calleeE, opE, wantE, odE, odS, odL, odSL, fget, fput, initE, keepF, List.map_cons, List.map_nil, binE, intOp, strOp, shOp, unE, eqpE, eqnE, neqB, ressE, resE, packL, packE, flat1, fcells, fillE, setL, cellsOf_bind, cellsO_own, cellsO_ro, lenE_sl, lenE_nils, lenE_sl0, bound, rep, minE, maxE, List.getElem?_cons_zero, List.getElem?_cons_succ, get_lt, set_lt, get_len, get_len_add, set_len, set_len_add, List.append_assoc, List.cons_append, List.nil_append, -getElem?_pos, s14_3, sm1, sm2, sm3, tn, ce, c0, wk]
    exact hΨ _ _ rfl
end Go.Proofs.Ytbpagnnfieipcaa.Ev.CT
