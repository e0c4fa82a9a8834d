/- Split on the small machine. -/
import Derived.Test.YtejoijjmlglhfaaSpC
set_option linter.unusedSimpArgs false
set_option linter.unusedVariables false
namespace Go.Proofs.Ytejoijjmlglhfaa.Ev.CS
open Go

def splitOk (n : Int) (w : List Int) : Bool := (rightF w).2 && decide (-100000000000 ≤ n ∧ n ≤ 100000000000)
def splitP (n : Int) (w : List Int) : List Int := if n < 0 then (shareF (-n) w.sum w).map (fun x => -x) else shareF n w.sum w
def splitF (n : Int) (w : List Int) : List Int := if splitOk n w then splitP n w else []
theorem right_true {w : List Int} (h : (rightF w).2 = true) : w.all wR = true ∧ 0 < w.sum ∧ w.length ≤ 16 ∧ 0 < w.length ∧ (rightF w).1 = w.sum := by
  unfold rightF at h ⊢
  split at h
  · rename_i ha
    simp only [Bool.and_eq_true, decide_eq_true_eq] at h
    refine ⟨ha, h.1, h.2, ?_, by rw [if_pos ha]⟩
    cases w with
    | nil => simp at h
    | cons a w => simp
  · cases h
theorem bump_le {B : Int} (s : List Int × List Int) (h : ∀ x ∈ s.1, 0 ≤ x ∧ x ≤ B) (hB : 0 ≤ B) : ∀ x ∈ (bump s).1, 0 ≤ x ∧ x ≤ B + 1 := by
  intro x hx
  unfold bump at hx
  rcases List.mem_or_eq_of_mem_set hx with hx | rfl
  · have := h x hx; omega
  · by_cases c : idx (maxL s.2) s.2 < s.1.length
    · have := h _ (List.getElem_mem c)
      rw [show s.1.getD (idx (maxL s.2) s.2) 0 = s.1[idx (maxL s.2) s.2] by simp [List.getD, c]]
      omega
    · rw [show s.1.getD (idx (maxL s.2) s.2) 0 = 0 by simp [List.getD, List.getElem?_eq_none (Nat.le_of_not_lt c)]]
      omega
theorem bumps_le {B : Int} (hB : 0 ≤ B) {s : List Int × List Int} (h : ∀ x ∈ s.1, 0 ≤ x ∧ x ≤ B) : ∀ (k : Nat), ∀ x ∈ (bumps k s).1, 0 ≤ x ∧ x ≤ B + k
  | 0 => by simpa [bumps] using h
  | k + 1 => by
    have := bump_le (B := B + k) (bumps k s) (bumps_le hB h k) (by omega)
    intro x hx
    have := this x hx
    omega
theorem share_bound {n s : Int} {w : List Int} (hn : 0 ≤ n ∧ n ≤ 100000000000) (hw : w.all wR = true) (hs : 0 < s) : ∀ x ∈ shareF n s w, 0 ≤ x ∧ x ≤ 200000000000000000 := by
  intro x hx
  have q := quo_bound hn hs hw
  have := bumps_le (B := 100000000000000000) (by decide) (s := (quos n s w, rems n s w)) q _ x hx
  have := sum_le16 q
  omega

set_option maxHeartbeats 2000000 in
theorem split_ok {h : LH} {v : SV} {w : List Int} (r : Rd h 3 1 encI v w) (hl : w.length < 1000000) (n : Int) :
    WPc C 9 [.s (.int .i64 n), .s v] h fun u h' => Gr h h' ∧ ∃ a, u = .tup [.s a, .s (.bool (splitOk n w))] ∧ Ow h.length h' 3 encI a (splitF n w) := by
  refine WPc.post fun Ψ hΨ => ?_
  refine WPc.intro (e := e9) rfl (by simp [e9]) ?_
  show WPk C b9 _ _ (KR [.tmp 4, .tmp 5] _)
  have c1 := right_ok r hl
  have c2 := fun h => money_ok n h
  cases hk : splitOk n w with
  | false =>
    have hF : splitF n w = [] := by unfold splitF; rw [hk]; rfl
    rw [hF, hk] at hΨ
    unfold splitOk at hk
    cases hr : (rightF w).2 with
    | false =>
      rw [hr] at c1
      simp [wpk_skip, wpk_seq, k_cond, wpk_block, wpk_exit, wpk_ret, wpk_loop, k_ops, k_draw0, t_nil, t_cons, KT_eq, KD_eq, wpo_nil, k_cons, k_step, mt_some, mtk_some, KO_eq, KP_eq, K_normal, K_ret, K_exit, KB_normal, KB_ret, KB_exit, KL_normal, KL_ret, KL_exit, k_ret, k_normal, stepE, isCall, calleeE, opE, wantE, odE, odS, odL, odSL, fget, fput, initE, keepF, List.map_cons, List.map_nil, binE, intOp, strOp, shOp, unE, eqpE, eqnE, neqB, ressE, resE, packL, packE, flat1, fcells, fillE, setL, cellsOf_bind, cellsO_own, cellsO_ro, lenE_sl, lenE_nils, lenE_sl0, bound, rep, minE, maxE, List.getElem?_cons_zero, List.getElem?_cons_succ, get_lt, set_lt, get_len, get_len_add, set_len, set_len_add, List.append_assoc, List.cons_append, List.nil_append, -getElem?_pos, b9, s9_5, s9_4, s9_3, s9_2, s9_1, c1]
      exact hΨ _ _ ⟨Gr.refl _, _, rfl, Ow.nil _ _⟩
    | true =>
      rw [hr, Bool.true_and] at hk
      rw [hr] at c1
      rw [hk] at c2
      simp [wpk_skip, wpk_seq, k_cond, wpk_block, wpk_exit, wpk_ret, wpk_loop, k_ops, k_draw0, t_nil, t_cons, KT_eq, KD_eq, wpo_nil, k_cons, k_step, mt_some, mtk_some, KO_eq, KP_eq, K_normal, K_ret, K_exit, KB_normal, KB_ret, KB_exit, KL_normal, KL_ret, KL_exit, k_ret, k_normal, stepE, isCall, calleeE, opE, wantE, odE, odS, odL, odSL, fget, fput, initE, keepF, List.map_cons, List.map_nil, binE, intOp, strOp, shOp, unE, eqpE, eqnE, neqB, ressE, resE, packL, packE, flat1, fcells, fillE, setL, cellsOf_bind, cellsO_own, cellsO_ro, lenE_sl, lenE_nils, lenE_sl0, bound, rep, minE, maxE, List.getElem?_cons_zero, List.getElem?_cons_succ, get_lt, set_lt, get_len, get_len_add, set_len, set_len_add, List.append_assoc, List.cons_append, List.nil_append, -getElem?_pos, b9, s9_5, s9_4, s9_3, s9_2, s9_1, c1, c2]
      exact hΨ _ _ ⟨Gr.refl _, _, rfl, Ow.nil _ _⟩
  | true =>
    have hF : splitF n w = splitP n w := by unfold splitF; rw [hk]; rfl
    rw [hF, hk] at hΨ
    unfold splitOk at hk
    simp only [Bool.and_eq_true] at hk
    obtain ⟨ha, hs, h16, h0, e1⟩ := right_true hk.1
    rw [hk.1, e1] at c1
    rw [hk.2] at c2
    have hn := of_decide_eq_true hk.2
    have w0 : IntKind.i64.wrap (-n) = -n := wrap_small (by omega) (by omega)
    by_cases c : n < 0
    · have eP : splitP n w = (shareF (-n) w.sum w).map (fun x => -x) := by unfold splitP; rw [if_pos c]
      rw [eP] at hΨ
      have c3 : -n > n := by omega
      have c3' : n < -n := by omega
      simp [wpk_skip, wpk_seq, k_cond, wpk_block, wpk_exit, wpk_ret, wpk_loop, k_ops, k_draw0, t_nil, t_cons, KT_eq, KD_eq, wpo_nil, k_cons, k_step, mt_some, mtk_some, KO_eq, KP_eq, K_normal, K_ret, K_exit, KB_normal, KB_ret, KB_exit, KL_normal, KL_ret, KL_exit, k_ret, k_normal, stepE, isCall, calleeE, opE, wantE, odE, odS, odL, odSL, fget, fput, initE, keepF, List.map_cons, List.map_nil, binE, intOp, strOp, shOp, unE, eqpE, eqnE, neqB, ressE, resE, packL, packE, flat1, fcells, fillE, setL, cellsOf_bind, cellsO_own, cellsO_ro, lenE_sl, lenE_nils, lenE_sl0, bound, rep, minE, maxE, List.getElem?_cons_zero, List.getElem?_cons_succ, get_lt, set_lt, get_len, get_len_add, set_len, set_len_add, List.append_assoc, List.cons_append, List.nil_append, -getElem?_pos, b9, s9_1, s9_2, s9_3, c1, c2, w0, c3, c3']
      refine WPc.go (share_ok r (n := -n) (by omega) ha hs h16 h0) ?_
      rintro _ h1 ⟨g1, a, rfl, ow⟩
      have sb := share_bound (n := -n) (s := w.sum) (w := w) (by omega) ha hs
      have sl := shareF_len (-n) w.sum w
      generalize shareF (-n) w.sum w = L at *
      simp [wpk_skip, wpk_seq, k_cond, wpk_block, wpk_exit, wpk_ret, wpk_loop, k_ops, k_draw0, t_nil, t_cons, KT_eq, KD_eq, wpo_nil, k_cons, k_step, mt_some, mtk_some, KO_eq, KP_eq, K_normal, K_ret, K_exit, KB_normal, KB_ret, KB_exit, KL_normal, KL_ret, KL_exit, k_ret, k_normal, stepE, isCall, calleeE, opE, wantE, odE, odS, odL, odSL, fget, fput, initE, keepF, List.map_cons, List.map_nil, binE, intOp, strOp, shOp, unE, eqpE, eqnE, neqB, ressE, resE, packL, packE, flat1, fcells, fillE, setL, cellsOf_bind, cellsO_own, cellsO_ro, lenE_sl, lenE_nils, lenE_sl0, bound, rep, minE, maxE, List.getElem?_cons_zero, List.getElem?_cons_succ, get_lt, set_lt, get_len, get_len_add, set_len, set_len_add, List.append_assoc, List.cons_append, List.nil_append, -getElem?_pos, s9_4, c, ow.len]
      refine WPl.post (fun x fr' h' => x = .exit 0 ∧ fr' = [(8, some (.s a))] ∧ Gr h h' ∧ Ow h.length h' 3 encI a (L.map (fun x => -x))) (fun Φ hΦ => ?_) ?_
      · refine WPl.inv2 (fun m fr h' => ∃ (k : Nat) (S : List Int), k ≤ L.length ∧ m = L.length - k ∧ Gr h h' ∧ Ow h.length h' 3 encI a S ∧ S.length = L.length ∧ S.take k = (L.take k).map (fun x => -x) ∧ S.drop k = L.drop k ∧
          fr = [(8, some (.s a)), (32, some (.s (.int .i64 L.length))), (33, some (.s (.int .i64 k)))]) ?_ _ _ _ ⟨0, L, Nat.zero_le _, rfl, g1, ow, rfl, rfl, rfl, rfl⟩
        rintro I hI m fr h' ⟨k, S, hk', rfl, gr, oS, hlS, tS, dS, rfl⟩
        refine ⟨by simp [keepF, fget], ?_⟩
        by_cases hlt : k < L.length
        · have kS : k < S.length := by omega
          obtain ⟨j, i1, rfl, i2, i3⟩ := oS.int_at kS
          have i5 := lt_of_some i2
          have hrow : S[k] = L[k] := by
            have e1 := List.drop_eq_getElem_cons kS
            have e2 := List.drop_eq_getElem_cons hlt
            rw [dS, e2] at e1
            exact ((List.cons.inj e1).1).symm
          have hget : (S.map (SV.int .i64))[k]? = some (.int .i64 S[k]) := by simp [kS]
          have hx := sb _ (List.getElem_mem hlt)
          rw [← hrow] at hx
          have w2 : IntKind.i64.wrap (-S[k]) = -S[k] := wrap_small (by omega) (by omega)
          have w3 : IntKind.i64.wrap ((k : Int) + 1) = ((k + 1 : Nat) : Int) := wrap_small (by omega) (by omega)
          have t2 : k + 1 ≤ S.length := kS
          have g1' : S[k]? = some S[k] := List.getElem?_eq_getElem kS
          simp [wpk_skip, wpk_seq, k_cond, wpk_block, wpk_exit, wpk_ret, wpk_loop, k_ops, k_draw0, t_nil, t_cons, KT_eq, KD_eq, wpo_nil, k_cons, k_step, mt_some, mtk_some, KO_eq, KP_eq, K_normal, K_ret, K_exit, KB_normal, KB_ret, KB_exit, KL_normal, KL_ret, KL_exit, k_ret, k_normal, stepE, isCall, calleeE, opE, wantE, odE, odS, odL, odSL, fget, fput, initE, keepF, List.map_cons, List.map_nil, binE, intOp, strOp, shOp, unE, eqpE, eqnE, neqB, ressE, resE, packL, packE, flat1, fcells, fillE, setL, cellsOf_bind, cellsO_own, cellsO_ro, lenE_sl, lenE_nils, lenE_sl0, bound, rep, minE, maxE, List.getElem?_cons_zero, List.getElem?_cons_succ, get_lt, set_lt, get_len, get_len_add, set_len, set_len_add, List.append_assoc, List.cons_append, List.nil_append, -getElem?_pos, l9_0_2, l9_0_1, l9_0, hlt, kS, i2, i5, hget, g1', w2, w3, t2]
          refine ⟨_, by omega, hI _ _ _ ⟨k + 1, S.set k (-S[k]), hlt, rfl, gr.set _ i1, i3 _, by simpa using hlS, ?_, ?_, rfl⟩⟩
          · rw [List.take_succ_eq_append_getElem (by simpa using kS), List.take_set_of_le (by omega), tS, List.take_succ_eq_append_getElem hlt, List.map_append]; simp only [List.map_cons, List.map_nil, List.getElem_set_self, hrow]
          · rw [List.drop_set_of_lt (by omega)]
            have := congrArg (List.drop 1) dS
            simpa using this
        · obtain rfl : k = L.length := by omega
          rw [List.take_of_length_le (by omega), List.take_length] at tS
          subst tS
          simp [wpk_skip, wpk_seq, k_cond, wpk_block, wpk_exit, wpk_ret, wpk_loop, k_ops, k_draw0, t_nil, t_cons, KT_eq, KD_eq, wpo_nil, k_cons, k_step, mt_some, mtk_some, KO_eq, KP_eq, K_normal, K_ret, K_exit, KB_normal, KB_ret, KB_exit, KL_normal, KL_ret, KL_exit, k_ret, k_normal, stepE, isCall, calleeE, opE, wantE, odE, odS, odL, odSL, fget, fput, initE, keepF, List.map_cons, List.map_nil, binE, intOp, strOp, shOp, unE, eqpE, eqnE, neqB, ressE, resE, packL, packE, flat1, fcells, fillE, setL, cellsOf_bind, cellsO_own, cellsO_ro, lenE_sl, lenE_nils, lenE_sl0, bound, rep, minE, maxE, List.getElem?_cons_zero, List.getElem?_cons_succ, get_lt, set_lt, get_len, get_len_add, set_len, set_len_add, List.append_assoc, List.cons_append, List.nil_append, -getElem?_pos, l9_0_2, l9_0_1, l9_0, hlt]
          exact hΦ _ _ _ ⟨rfl, rfl, gr, oS⟩
      · rintro x fr' h2 ⟨rfl, rfl, g2, o2⟩
        simp [wpk_skip, wpk_seq, k_cond, wpk_block, wpk_exit, wpk_ret, wpk_loop, k_ops, k_draw0, t_nil, t_cons, KT_eq, KD_eq, wpo_nil, k_cons, k_step, mt_some, mtk_some, KO_eq, KP_eq, K_normal, K_ret, K_exit, KB_normal, KB_ret, KB_exit, KL_normal, KL_ret, KL_exit, k_ret, k_normal, stepE, isCall, calleeE, opE, wantE, odE, odS, odL, odSL, fget, fput, initE, keepF, List.map_cons, List.map_nil, binE, intOp, strOp, shOp, unE, eqpE, eqnE, neqB, ressE, resE, packL, packE, flat1, fcells, fillE, setL, cellsOf_bind, cellsO_own, cellsO_ro, lenE_sl, lenE_nils, lenE_sl0, bound, rep, minE, maxE, List.getElem?_cons_zero, List.getElem?_cons_succ, get_lt, set_lt, get_len, get_len_add, set_len, set_len_add, List.append_assoc, List.cons_append, List.nil_append, -getElem?_pos, s9_5]
        exact hΨ _ _ ⟨g2, a, rfl, o2⟩
    · have eP : splitP n w = shareF n w.sum w := by unfold splitP; rw [if_neg c]
      rw [eP] at hΨ
      have c3 : ¬ -n > n := by omega
      have c3' : ¬ n < -n := by omega
      simp [wpk_skip, wpk_seq, k_cond, wpk_block, wpk_exit, wpk_ret, wpk_loop, k_ops, k_draw0, t_nil, t_cons, KT_eq, KD_eq, wpo_nil, k_cons, k_step, mt_some, mtk_some, KO_eq, KP_eq, K_normal, K_ret, K_exit, KB_normal, KB_ret, KB_exit, KL_normal, KL_ret, KL_exit, k_ret, k_normal, stepE, isCall, calleeE, opE, wantE, odE, odS, odL, odSL, fget, fput, initE, keepF, List.map_cons, List.map_nil, binE, intOp, strOp, shOp, unE, eqpE, eqnE, neqB, ressE, resE, packL, packE, flat1, fcells, fillE, setL, cellsOf_bind, cellsO_own, cellsO_ro, lenE_sl, lenE_nils, lenE_sl0, bound, rep, minE, maxE, List.getElem?_cons_zero, List.getElem?_cons_succ, get_lt, set_lt, get_len, get_len_add, set_len, set_len_add, List.append_assoc, List.cons_append, List.nil_append, -getElem?_pos, b9, s9_1, s9_2, s9_3, c1, c2, w0, c3, c3']
      refine WPc.go (share_ok r (n := n) (by omega) ha hs h16 h0) ?_
      rintro _ h1 ⟨g1, a, rfl, ow⟩
      simp [wpk_skip, wpk_seq, k_cond, wpk_block, wpk_exit, wpk_ret, wpk_loop, k_ops, k_draw0, t_nil, t_cons, KT_eq, KD_eq, wpo_nil, k_cons, k_step, mt_some, mtk_some, KO_eq, KP_eq, K_normal, K_ret, K_exit, KB_normal, KB_ret, KB_exit, KL_normal, KL_ret, KL_exit, k_ret, k_normal, stepE, isCall, calleeE, opE, wantE, odE, odS, odL, odSL, fget, fput, initE, keepF, List.map_cons, List.map_nil, binE, intOp, strOp, shOp, unE, eqpE, eqnE, neqB, ressE, resE, packL, packE, flat1, fcells, fillE, setL, cellsOf_bind, cellsO_own, cellsO_ro, lenE_sl, lenE_nils, lenE_sl0, bound, rep, minE, maxE, List.getElem?_cons_zero, List.getElem?_cons_succ, get_lt, set_lt, get_len, get_len_add, set_len, set_len_add, List.append_assoc, List.cons_append, List.nil_append, -getElem?_pos, s9_4, s9_5, c]
      exact hΨ _ _ ⟨g1, a, rfl, ow⟩

theorem wakes_ok (h : LH) : WPc C 10 [] h fun u h' => Gr h h' ∧ u = .s (.bool true) := by
  refine WPc.post fun Ψ hΨ => ?_
  refine WPc.intro (e := e10) rfl (by simp [e10]) ?_
  show WPk C b10 _ _ (KR [.tmp 0] _)
  have o4 : (h ++ [LO.own 3 [.int .i64 1, .int .i64 1, .int .i64 1]])[h.length]? = some (.own 3 (([1, 1, 1] : List Int).flatMap encI)) := get_len
  have s4 := split_ok (Rd.lit encI_len o4 (p := 0)) (by decide) 10
  have e1 : splitOk 10 [1, 1, 1] = true := by decide
  have e2 : splitF 10 [1, 1, 1] = [4, 3, 3] := by decide
  rw [e1, e2] at s4
  simp only [List.length_cons, List.length_nil] at s4
  simp [wpk_skip, wpk_seq, k_cond, wpk_block, wpk_exit, wpk_ret, wpk_loop, k_ops, k_draw0, t_nil, t_cons, KT_eq, KD_eq, wpo_nil, k_cons, k_step, mt_some, mtk_some, KO_eq, KP_eq, K_normal, K_ret, K_exit, KB_normal, KB_ret, KB_exit, KL_normal, KL_ret, KL_exit, k_ret, k_normal, stepE, isCall, calleeE, opE, wantE, odE, odS, odL, odSL, fget, fput, initE, keepF, List.map_cons, List.map_nil, binE, intOp, strOp, shOp, unE, eqpE, eqnE, neqB, ressE, resE, packL, packE, flat1, fcells, fillE, setL, cellsOf_bind, cellsO_own, cellsO_ro, lenE_sl, lenE_nils, lenE_sl0, bound, rep, minE, maxE, List.getElem?_cons_zero, List.getElem?_cons_succ, get_lt, set_lt, get_len, get_len_add, set_len, set_len_add, List.append_assoc, List.cons_append, List.nil_append, -getElem?_pos, b10, s10_1]
  refine WPc.go s4 ?_
  rintro _ h1 ⟨g1, a, rfl, ow⟩
  have o5 : (h1 ++ [LO.own 3 [.int .i64 4, .int .i64 3, .int .i64 3]])[h1.length]? = some (.own 3 (([4, 3, 3] : List Int).flatMap encI)) := get_len
  have s5 := same_ok ((ow.gr (Gr.self h1 _)).rd encI_len) (Rd.lit encI_len o5 (p := 0)) (by decide)
  simp only [List.length_cons, List.length_nil] at s5
  simp [wpk_skip, wpk_seq, k_cond, wpk_block, wpk_exit, wpk_ret, wpk_loop, k_ops, k_draw0, t_nil, t_cons, KT_eq, KD_eq, wpo_nil, k_cons, k_step, mt_some, mtk_some, KO_eq, KP_eq, K_normal, K_ret, K_exit, KB_normal, KB_ret, KB_exit, KL_normal, KL_ret, KL_exit, k_ret, k_normal, stepE, isCall, calleeE, opE, wantE, odE, odS, odL, odSL, fget, fput, initE, keepF, List.map_cons, List.map_nil, binE, intOp, strOp, shOp, unE, eqpE, eqnE, neqB, ressE, resE, packL, packE, flat1, fcells, fillE, setL, cellsOf_bind, cellsO_own, cellsO_ro, lenE_sl, lenE_nils, lenE_sl0, bound, rep, minE, maxE, List.getElem?_cons_zero, List.getElem?_cons_succ, get_lt, set_lt, get_len, get_len_add, set_len, set_len_add, List.append_assoc, List.cons_append, List.nil_append, -getElem?_pos, s10_2, s5]
  exact hΨ _ _ ⟨(((Gr.self h _).trans g1).app _), rfl⟩
end Go.Proofs.Ytejoijjmlglhfaa.Ev.CS
