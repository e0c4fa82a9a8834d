/- The parts of an amount on the small machine. -/
import Derived.Test.YtejoijjmlglhfaaSpB
set_option linter.unusedSimpArgs false
set_option linter.unusedVariables false
namespace Go.Proofs.Ytejoijjmlglhfaa.Ev.CS
open Go

def bump (s : List Int × List Int) : List Int × List Int := (s.1.set (idx (maxL s.2) s.2) (s.1.getD (idx (maxL s.2) s.2) 0 + 1), s.2.set (idx (maxL s.2) s.2) (-1))
def bumps : Nat → List Int × List Int → List Int × List Int
  | 0, s => s
  | n + 1, s => bump (bumps n s)
theorem bumps_len : ∀ (n : Nat) (s : List Int × List Int), (bumps n s).1.length = s.1.length ∧ (bumps n s).2.length = s.2.length
  | 0, s => ⟨rfl, rfl⟩
  | n + 1, s => by
    have := bumps_len n s
    simp [bumps, bump, this]
def quos (n s : Int) (w : List Int) : List Int := w.map fun x => n * x / s
def rems (n s : Int) (w : List Int) : List Int := w.map fun x => n * x % s
def shareF (n s : Int) (w : List Int) : List Int := (bumps (n - (quos n s w).sum).toNat (quos n s w, rems n s w)).1
theorem shareF_len (n s : Int) (w : List Int) : (shareF n s w).length = w.length := by
  unfold shareF; rw [(bumps_len _ _).1]; simp [quos]

def st (h : LH) (O R : List Int) : LH := h ++ [.own 3 (O.map (.int .i64)), .own 3 (R.map (.int .i64))]
theorem st_gr (h : LH) (O R : List Int) : Gr h (st h O R) := Gr.self h _
theorem st_rd2 (h : LH) (O R : List Int) : Rd (st h O R) 3 1 encI (.sl (h.length + 1) 0 0 R.length) R := by
  refine Rd.lit encI_len ?_
  unfold st
  rw [get_len_add, encI_flat]; rfl
theorem st_ow (h : LH) (O R : List Int) : Ow h.length (st h O R) 3 encI (.sl h.length 0 0 O.length) O := by
  refine .inr ⟨h.length, Nat.le_refl _, rfl, ?_⟩
  unfold st
  rw [get_len, encI_flat]
theorem quo_bound {n s : Int} (hn : 0 ≤ n ∧ n ≤ 100000000000) (hs : 0 < s) {w : List Int} (hw : w.all wR = true) : ∀ x ∈ quos n s w, 0 ≤ x ∧ x ≤ 100000000000000000 := by
  intro x hx
  obtain ⟨y, hy, rfl⟩ := List.mem_map.1 hx
  have hy' := of_decide_eq_true (List.all_eq_true.1 hw y hy)
  have m0 : 0 ≤ n * y := Int.mul_nonneg hn.1 hy'.1
  have m1 : n * y ≤ 100000000000 * 1000000 := Int.mul_le_mul hn.2 hy'.2 hy'.1 (by decide)
  have d0 := Int.ediv_nonneg m0 (Int.le_of_lt hs)
  have d1 := Int.ediv_le_self s m0
  omega
theorem sum_le16 : ∀ {l : List Int}, (∀ x ∈ l, 0 ≤ x ∧ x ≤ 100000000000000000) → 0 ≤ l.sum ∧ l.sum ≤ 100000000000000000 * l.length
  | [], _ => by simp
  | a :: l, h => by
    have := sum_le16 (l := l) fun x hx => h x (List.mem_cons_of_mem _ hx)
    have := h a List.mem_cons_self
    simp only [List.sum_cons, List.length_cons]
    omega

set_option maxRecDepth 20000 in
set_option maxHeartbeats 4000000 in
theorem share_ok {h : LH} {v : SV} {w : List Int} (r : Rd h 3 1 encI v w) {n s : Int} (hn : 0 ≤ n ∧ n ≤ 100000000000) (hw : w.all wR = true) (hs : 0 < s) (hl : w.length ≤ 16) (h0 : 0 < w.length) :
    WPc C 18 [.s (.int .i64 n), .s v, .s (.int .i64 s)] h fun u h' => Gr h h' ∧ ∃ a, u = .s a ∧ Ow h.length h' 3 encI a (shareF n s w) := by
  refine WPc.post fun Ψ hΨ => ?_
  refine WPc.intro (e := e18) rfl (by simp [e18]) ?_
  show WPk C b18 _ _ (KR [.tmp 6] _)
  have rl := r.len
  have b8 : w.length * 8 ≤ 140737488355328 := by omega
  have hrep : rep w.length [SV.int .i64 0] = (List.replicate w.length (0 : Int)).map (.int .i64) := by
    generalize w.length = m
    induction m with
    | zero => rfl
    | succ m ih => rw [List.replicate_succ, List.map_cons, ← ih]; rfl
  simp [wpk_skip, wpk_seq, k_cond, wpk_block, wpk_exit, wpk_ret, wpk_loop, k_ops, k_draw0, t_nil, t_cons, KT_eq, KD_eq, wpo_nil, k_cons, k_step, mt_some, mtk_some, KO_eq, KP_eq, K_normal, K_ret, K_exit, KB_normal, KB_ret, KB_exit, KL_normal, KL_ret, KL_exit, k_ret, k_normal, stepE, isCall, calleeE, opE, wantE, odE, odS, odL, odSL, fget, fput, initE, keepF, List.map_cons, List.map_nil, binE, intOp, strOp, shOp, unE, eqpE, eqnE, neqB, ressE, resE, packL, packE, flat1, fcells, fillE, setL, cellsOf_bind, cellsO_own, cellsO_ro, lenE_sl, lenE_nils, lenE_sl0, bound, rep, minE, maxE, List.getElem?_cons_zero, List.getElem?_cons_succ, get_lt, set_lt, get_len, get_len_add, set_len, set_len_add, List.append_assoc, List.cons_append, List.nil_append, -getElem?_pos, b18, s18_1, s18_2, s18_3, s18_4, rl, b8, hrep]
  have qb := quo_bound hn hs hw
  have ql : (quos n s w).length = w.length := by simp [quos]
  have rml : (rems n s w).length = w.length := by simp [rems]
  refine WPl.post (fun x fr' h' => x = .exit 0 ∧ fr' = [(7, some (.s (.sl h.length 0 0 w.length))), (8, some (.s (.sl (h.length + 1) 0 0 w.length))), (9, some (.s (.int .i64 (n - (quos n s w).sum))))] ∧ h' = st h (quos n s w) (rems n s w)) (fun Φ hΦ => ?_) ?_
  · refine WPl.inv2 (fun m fr h' => ∃ (k : Nat) (O R : List Int), k ≤ w.length ∧ m = w.length - k ∧ O.length = w.length ∧ R.length = w.length ∧ O.take k = (quos n s w).take k ∧ R.take k = (rems n s w).take k ∧ h' = h ++ [.own 3 (O.map (.int .i64)), .own 3 (R.map (.int .i64))] ∧
      fr = [(0, some (.s (.int .i64 n))), (2, some (.s (.int .i64 s))), (7, some (.s (.sl h.length 0 0 w.length))), (8, some (.s (.sl (h.length + 1) 0 0 w.length))), (9, some (.s (.int .i64 (n - ((quos n s w).take k).sum)))), (20, some (.s v)), (21, some (.s (.int .i64 w.length))), (22, some (.s (.int .i64 k)))]) ?_ _ _ _ ⟨0, List.replicate w.length 0, List.replicate w.length 0, Nat.zero_le _, rfl, by simp, by simp, rfl, rfl, by simp, by simp⟩
    rintro I hI m fr h' ⟨k, O, R, hk, rfl, lO, lR, tO, tR, rfl, rfl⟩
    refine ⟨by simp [keepF, fget], ?_⟩
    by_cases hlt : k < w.length
    · obtain ⟨i, p, o, ob, vs, rfl, q2, q3, q4⟩ := (r.gr (Gr.self h [.own 3 (O.map (.int .i64)), .own 3 (R.map (.int .i64))])).int hlt
      have q5 := lt_of_some q2
      have w3 : IntKind.i64.wrap ((k : Int) + 1) = ((k + 1 : Nat) : Int) := wrap_small (by omega) (by omega)
      have hx := of_decide_eq_true (List.all_eq_true.1 hw _ (List.getElem_mem hlt))
      have m0 : 0 ≤ n * w[k] := Int.mul_nonneg hn.1 hx.1
      have m1 : n * w[k] ≤ 100000000000 * 1000000 := Int.mul_le_mul hn.2 hx.2 hx.1 (by decide)
      have eq : (quos n s w)[k]'(by omega) = n * w[k] / s := by simp [quos]
      have er : (rems n s w)[k]'(by omega) = n * w[k] % s := by simp [rems]
      have es := sum_take_succ (quos n s w) (k := k) (by omega)
      have eb := sum_le16 (l := (quos n s w).take k) fun x hx => qb x (List.mem_of_mem_take hx)
      have el : ((quos n s w).take k).length ≤ 16 := by simp; omega
      have eO : (quos n s w).take (k + 1) = (quos n s w).take k ++ [n * w[k] / s] := by rw [List.take_succ_eq_append_getElem (by omega), eq]
      have eR : (rems n s w).take (k + 1) = (rems n s w).take k ++ [n * w[k] % s] := by rw [List.take_succ_eq_append_getElem (by omega), er]
      rw [eq] at es
      have d0 := Int.ediv_nonneg m0 (Int.le_of_lt hs)
      have d1 := Int.ediv_le_self s m0
      obtain ⟨y, hy⟩ : ∃ y, y = n * w[k] := ⟨_, rfl⟩
      rw [← hy] at m0 m1 es d0 d1 eO eR
      have w1 : IntKind.i64.wrap y = y := wrap_small (by omega) (by omega)
      have e1 : y.tdiv s = y / s := Int.tdiv_eq_ediv_of_nonneg m0
      have e2 : y.tmod s = y % s := Int.tmod_eq_emod_of_nonneg m0
      have w2 : IntKind.i64.wrap (y / s) = y / s := wrap_small (by omega) (by omega)
      have w4 : IntKind.i64.wrap (n - ((quos n s w).take k).sum - y / s) = n - ((quos n s w).take (k + 1)).sum := by rw [es, wrap_small (by omega) (by omega)]; omega
      have s0 : ¬ s = 0 := by omega
      have t1 : k < O.length := by omega
      have t2 : k + 1 ≤ O.length := by omega
      have t3 : k < R.length := by omega
      have t4 : k + 1 ≤ R.length := by omega
      simp [wpk_skip, wpk_seq, k_cond, wpk_block, wpk_exit, wpk_ret, wpk_loop, k_ops, k_draw0, t_nil, t_cons, KT_eq, KD_eq, wpo_nil, k_cons, k_step, mt_some, mtk_some, KO_eq, KP_eq, K_normal, K_ret, K_exit, KB_normal, KB_ret, KB_exit, KL_normal, KL_ret, KL_exit, k_ret, k_normal, stepE, isCall, calleeE, opE, wantE, odE, odS, odL, odSL, fget, fput, initE, keepF, List.map_cons, List.map_nil, binE, intOp, strOp, shOp, unE, eqpE, eqnE, neqB, ressE, resE, packL, packE, flat1, fcells, fillE, setL, cellsOf_bind, cellsO_own, cellsO_ro, lenE_sl, lenE_nils, lenE_sl0, bound, rep, minE, maxE, List.getElem?_cons_zero, List.getElem?_cons_succ, get_lt, set_lt, get_len, get_len_add, set_len, set_len_add, List.append_assoc, List.cons_append, List.nil_append, -getElem?_pos, l18_0_2, l18_0_1, l18_0, hlt, q2, q3, q4, q5, ← hy, w1, e1, e2, w2, w3, w4, s0, t1, t2, t3, t4]
      refine ⟨_, by omega, hI _ _ _ ⟨k + 1, O.set k (y / s), R.set k (y % s), hlt, rfl, by simpa using lO, by simpa using lR, ?_, ?_, by rw [List.map_set, List.map_set], by simp⟩⟩
      · rw [eO, List.take_succ_eq_append_getElem (by simpa using t1), List.take_set_of_le (by omega), tO]; simp
      · rw [eR, List.take_succ_eq_append_getElem (by simpa using t3), List.take_set_of_le (by omega), tR]; simp
    · obtain rfl : k = w.length := by omega
      rw [List.take_of_length_le (by omega), List.take_of_length_le (by omega)] at tO tR
      subst tO tR
      rw [List.take_of_length_le (by omega)]
      simp [wpk_skip, wpk_seq, k_cond, wpk_block, wpk_exit, wpk_ret, wpk_loop, k_ops, k_draw0, t_nil, t_cons, KT_eq, KD_eq, wpo_nil, k_cons, k_step, mt_some, mtk_some, KO_eq, KP_eq, K_normal, K_ret, K_exit, KB_normal, KB_ret, KB_exit, KL_normal, KL_ret, KL_exit, k_ret, k_normal, stepE, isCall, calleeE, opE, wantE, odE, odS, odL, odSL, fget, fput, initE, keepF, List.map_cons, List.map_nil, binE, intOp, strOp, shOp, unE, eqpE, eqnE, neqB, ressE, resE, packL, packE, flat1, fcells, fillE, setL, cellsOf_bind, cellsO_own, cellsO_ro, lenE_sl, lenE_nils, lenE_sl0, bound, rep, minE, maxE, List.getElem?_cons_zero, List.getElem?_cons_succ, get_lt, set_lt, get_len, get_len_add, set_len, set_len_add, List.append_assoc, List.cons_append, List.nil_append, -getElem?_pos, l18_0_2, l18_0_1, l18_0, hlt]
      exact hΦ _ _ _ ⟨rfl, rfl, rfl⟩
  · rintro x fr' h' ⟨rfl, rfl, rfl⟩
    have qs := sum_le16 qb
    simp [wpk_skip, wpk_seq, k_cond, wpk_block, wpk_exit, wpk_ret, wpk_loop, k_ops, k_draw0, t_nil, t_cons, KT_eq, KD_eq, wpo_nil, k_cons, k_step, mt_some, mtk_some, KO_eq, KP_eq, K_normal, K_ret, K_exit, KB_normal, KB_ret, KB_exit, KL_normal, KL_ret, KL_exit, k_ret, k_normal, stepE, isCall, calleeE, opE, wantE, odE, odS, odL, odSL, fget, fput, initE, keepF, List.map_cons, List.map_nil, binE, intOp, strOp, shOp, unE, eqpE, eqnE, neqB, ressE, resE, packL, packE, flat1, fcells, fillE, setL, cellsOf_bind, cellsO_own, cellsO_ro, lenE_sl, lenE_nils, lenE_sl0, bound, rep, minE, maxE, List.getElem?_cons_zero, List.getElem?_cons_succ, get_lt, set_lt, get_len, get_len_add, set_len, set_len_add, List.append_assoc, List.cons_append, List.nil_append, -getElem?_pos, s18_5]
    refine WPl.inv2 (fun m fr h' => ∃ (k : Nat) (O R : List Int), (k : Int) ≤ max 0 (n - (quos n s w).sum) ∧ m = (n - (quos n s w).sum).toNat - k ∧ (O, R) = bumps k (quos n s w, rems n s w) ∧ (∀ x ∈ O, 0 ≤ x ∧ x ≤ 100000000000000000 + k) ∧ h' = st h O R ∧
      fr = [(7, some (.s (.sl h.length 0 0 w.length))), (8, some (.s (.sl (h.length + 1) 0 0 w.length))), (50, some (.s (.int .i64 (n - (quos n s w).sum)))), (51, some (.s (.int .i64 k)))]) ?_ _ _ _ ⟨0, _, _, by omega, rfl, rfl, by intro x hx; have := qb x hx; omega, rfl, by simp⟩
    rintro I hI m fr h' ⟨k, O, R, hk, rfl, hb, bO, rfl, rfl⟩
    refine ⟨by simp [keepF, fget], ?_⟩
    have hbl := bumps_len k (quos n s w, rems n s w)
    rw [← hb] at hbl
    have lO : O.length = w.length := by rw [← ql]; exact hbl.1
    have lR : R.length = w.length := by rw [← rml]; exact hbl.2
    by_cases hlt : (k : Int) < n - (quos n s w).sum
    · have r2 := st_rd2 h O R
      rw [lR] at r2
      have hne : R ≠ [] := fun e => by rw [e] at lR; simp at lR; omega
      have hm := maxL_mem hne
      have c1 := max_ok r2 (by omega) (by omega)
      have c2 := index_ok r2 (by omega) hm
      obtain ⟨i1, _⟩ := idx_lt hm
      have e : (O.set (idx (maxL R) R) (O.getD (idx (maxL R) R) 0 + 1), R.set (idx (maxL R) R) (-1)) = bumps (k + 1) (quos n s w, rems n s w) := by
        show _ = bump (bumps k _)
        rw [← hb]; rfl
      generalize idx (maxL R) R = i at *
      have t1 : i < O.length := by omega
      have t2 : i + 1 ≤ O.length := by omega
      have t4 : i + 1 ≤ R.length := by omega
      have t5 : i < w.length := by omega
      have w3 : IntKind.i64.wrap ((k : Int) + 1) = ((k + 1 : Nat) : Int) := wrap_small (by omega) (by omega)
      have bx := bO _ (List.getElem_mem t1)
      have w4 : IntKind.i64.wrap (O[i] + 1) = O[i] + 1 := wrap_small (by omega) (by omega)
      have eg : O.getD i 0 = O[i] := by simp [List.getD, t1]
      rw [eg] at e
      have g1 : O[i]? = some O[i] := List.getElem?_eq_getElem t1
      unfold st at c1 c2 ⊢
      simp [wpk_skip, wpk_seq, k_cond, wpk_block, wpk_exit, wpk_ret, wpk_loop, k_ops, k_draw0, t_nil, t_cons, KT_eq, KD_eq, wpo_nil, k_cons, k_step, mt_some, mtk_some, KO_eq, KP_eq, K_normal, K_ret, K_exit, KB_normal, KB_ret, KB_exit, KL_normal, KL_ret, KL_exit, k_ret, k_normal, stepE, isCall, calleeE, opE, wantE, odE, odS, odL, odSL, fget, fput, initE, keepF, List.map_cons, List.map_nil, binE, intOp, strOp, shOp, unE, eqpE, eqnE, neqB, ressE, resE, packL, packE, flat1, fcells, fillE, setL, cellsOf_bind, cellsO_own, cellsO_ro, lenE_sl, lenE_nils, lenE_sl0, bound, rep, minE, maxE, List.getElem?_cons_zero, List.getElem?_cons_succ, get_lt, set_lt, get_len, get_len_add, set_len, set_len_add, List.append_assoc, List.cons_append, List.nil_append, -getElem?_pos, l18_1_2, l18_1_1, l18_1, hlt, c1, c2, t1, t2, g1, i1, t4, t5, w3, w4]
      refine ⟨_, by omega, hI _ _ _ ⟨k + 1, _, _, by omega, rfl, e, ?_, by unfold st; rw [List.map_set, List.map_set], by simp⟩⟩
      intro x hx
      rcases List.mem_or_eq_of_mem_set hx with hx | rfl
      · have := bO x hx; omega
      · omega
    · have hk' : k = (n - (quos n s w).sum).toNat := by omega
      have e : O = shareF n s w := by unfold shareF; rw [← hk', ← hb]
      simp [wpk_skip, wpk_seq, k_cond, wpk_block, wpk_exit, wpk_ret, wpk_loop, k_ops, k_draw0, t_nil, t_cons, KT_eq, KD_eq, wpo_nil, k_cons, k_step, mt_some, mtk_some, KO_eq, KP_eq, K_normal, K_ret, K_exit, KB_normal, KB_ret, KB_exit, KL_normal, KL_ret, KL_exit, k_ret, k_normal, stepE, isCall, calleeE, opE, wantE, odE, odS, odL, odSL, fget, fput, initE, keepF, List.map_cons, List.map_nil, binE, intOp, strOp, shOp, unE, eqpE, eqnE, neqB, ressE, resE, packL, packE, flat1, fcells, fillE, setL, cellsOf_bind, cellsO_own, cellsO_ro, lenE_sl, lenE_nils, lenE_sl0, bound, rep, minE, maxE, List.getElem?_cons_zero, List.getElem?_cons_succ, get_lt, set_lt, get_len, get_len_add, set_len, set_len_add, List.append_assoc, List.cons_append, List.nil_append, -getElem?_pos, l18_1_2, l18_1_1, l18_1, hlt, s18_6]
      refine hΨ _ _ ⟨st_gr _ _ _, _, rfl, ?_⟩
      rw [← e, ← lO]
      exact st_ow _ _ _
end Go.Proofs.Ytejoijjmlglhfaa.Ev.CS
