/- EnactGrows on the small machine. -/
import Derived.Test.YtcimcccnhbbncaaEnC
set_option linter.unusedSimpArgs false
set_option linter.unusedVariables false
namespace Go.Proofs.Ytcimcccnhbbncaa.Ev.CE
open Go

def uk : ByteArray := ⟨#[117, 107]⟩
theorem addR_cases (l : List Ro) (j : ByteArray) (y r p : Int) : (((addR l j y r p).1 == 0) = false ∧ (addR l j y r p).2 = l) ∨ (((addR l j y r p).1 == 0) = true ∧ (addR l j y r p).2 = l ++ [⟨j, y, r, p⟩] ∧ l.any (sameR j y p) = false) := by
  unfold addR
  split
  · exact .inl ⟨rfl, rfl⟩
  · split
    · exact .inl ⟨rfl, rfl⟩
    · rename_i h
      split
      · exact .inl ⟨rfl, rfl⟩
      · exact .inr ⟨rfl, rfl, by simpa using h⟩
theorem best_snoc (j : ByteArray) (y p : Int) (l : List Ro) (x : Ro) : bestF j y p (l ++ [x]) = stepB j y p (bestF j y p l) x := by
  unfold bestF
  rw [List.foldl_append]; rfl
theorem best_fold (j : ByteArray) (y p : Int) : ∀ (l : List Ro) (s : Option Ro) (b : Ro), l.foldl (stepB j y p) s = some b → s = some b ∨ (b ∈ l ∧ (b.j.toList == j.toList) = true ∧ b.y ≤ y ∧ b.p ≤ p)
  | [], s, b, h => .inl h
  | x :: l, s, b, h => by
    rw [List.foldl_cons] at h
    rcases best_fold j y p l _ b h with h | ⟨h1, h2⟩
    · unfold stepB at h
      split at h
      · exact .inl h
      · rename_i hc
        have hc' : (x.j.toList == j.toList) = true ∧ x.y ≤ y ∧ x.p ≤ p := by
          refine ⟨?_, by omega, by omega⟩
          cases e : x.j.toList == j.toList with
          | true => rfl
          | false => exact absurd (.inl e) hc
        split at h
        · cases h
          exact .inr ⟨List.mem_cons_self, hc'⟩
        · split at h
          · cases h
            exact .inr ⟨List.mem_cons_self, hc'⟩
          · exact .inl h
    · exact .inr ⟨List.mem_cons_of_mem _ h1, h2⟩
theorem best_mem {j : ByteArray} {y p : Int} {l : List Ro} {b : Ro} (h : bestF j y p l = some b) : b ∈ l ∧ (b.j.toList == j.toList) = true ∧ b.y ≤ y ∧ b.p ≤ p := by
  rcases best_fold j y p l none b h with h | h
  · cases h
  · exact h
theorem grow_same {j : ByteArray} {l : List Ro} {y r p k m : Int} (h : k < y ∨ m < p ∨ ((addR l j y r p).1 == 0) = false) : bestF j k m (addR l j y r p).2 = bestF j k m l := by
  rcases addR_cases l j y r p with ⟨_, e⟩ | ⟨e1, e, _⟩
  · rw [e]
  · rw [e, best_snoc]
    unfold stepB
    rw [if_pos]
    rcases h with h | h | h
    · exact .inr (.inl h)
    · exact .inr (.inr h)
    · rw [e1] at h; cases h
theorem grow_some {j : ByteArray} {l : List Ro} {y r p k m : Int} (h : (bestF j k m l).isSome = true) : (bestF j k m (addR l j y r p).2).isSome = true := by
  rcases addR_cases l j y r p with ⟨_, e⟩ | ⟨e1, e, _⟩
  · rw [e]; exact h
  · rw [e, best_snoc]
    unfold stepB
    split
    · exact h
    · split
      · rfl
      · split <;> rfl
theorem grow_new {j : ByteArray} {l : List Ro} {y r p : Int} (h : ((addR l j y r p).1 == 0) = true) : bestF j y p (addR l j y r p).2 = some ⟨j, y, r, p⟩ := by
  rcases addR_cases l j y r p with ⟨e1, _⟩ | ⟨e1, e, ha⟩
  · rw [e1] at h; cases h
  · rw [e, best_snoc]
    unfold stepB
    rw [if_neg (by simp)]
    cases hb : bestF j y p l with
    | none => rfl
    | some b =>
      obtain ⟨h1, h2, h3, h4⟩ := best_mem hb
      have h5 := List.any_eq_false.1 ha b h1
      simp only [sameR, h2, Bool.true_and] at h5
      simp only
      rw [if_pos]
      by_cases c : b.y = y
      · right
        refine ⟨c.symm, ?_⟩
        have : ¬ b.p = p := fun e => h5 (by simp [c, e])
        show p > b.p
        omega
      · left
        show y > b.y
        omega

set_option maxRecDepth 20000 in
set_option maxHeartbeats 8000000 in
theorem enactGrows_ok {h0 : LH} {av : SV} {zs : List Act} (ha : RowA h0 68 encA av zs) (y0 p0 r0 : Int) : ∃ h', callX C 12 [.s av, .s (.int .i64 y0), .s (.int .i64 p0), .s (.int .i64 r0)] h0 = some (.s (.bool true), h') ∧ True := by
  suffices w : WPc C 12 [.s av, .s (.int .i64 y0), .s (.int .i64 p0), .s (.int .i64 r0)] h0 fun u _ => u = .s (.bool true) by
    obtain ⟨v, h', e, rfl⟩ := w
    exact ⟨h', e, trivial⟩
  refine WPc.post fun Ψ hΨ => ?_
  refine WPc.intro (e := e12) rfl (by simp [e12]) ?_
  show WPk C b12 _ _ (KR [.tmp 8] _)
  have rA := ha.rd encA_len
  simp [wpk_skip, wpk_seq, k_cond, wpk_block, wpk_exit, wpk_ret, wpk_loop, k_ops, k_draw0, t_nil, t_cons, KT_eq, KD_eq, wpo_nil, k_cons, k_step, mt_some, mtk_some, KO_eq, KP_eq, K_normal, K_ret, K_exit, KB_normal, KB_ret, KB_exit, KL_normal, KL_ret, KL_exit, k_ret, k_normal, stepE, isCall, calleeE, opE, wantE, odE, odS, odL, odSL, fget, fput, initE, keepF, List.map_cons, List.map_nil, binE, intOp, strOp, shOp, unE, eqpE, eqnE, neqB, ressE, resE, packL, packE, flat1, fcells, fillE, setL, cellsOf_bind, cellsO_own, cellsO_ro, lenE_sl, lenE_nils, lenE_sl0, bound, rep, minE, maxE, List.getElem?_cons_zero, List.getElem?_cons_succ, get_lt, set_lt, get_len, get_len_add, set_len, set_len_add, List.append_assoc, List.cons_append, List.nil_append, -getElem?_pos, b12, s12_1, s12_2, s12_3, new_ok]
  refine WPl.post (fun x fr' h' => x = .exit 0 ∧ fr' = [(1, some (.s (.int .i64 y0))), (2, some (.s (.int .i64 p0))), (3, some (.s (.int .i64 r0))), (9, some (.s (.ptr h0.length 0)))] ∧ Gr h0 h' ∧ ∃ v l, Tb h0.length h' h0.length v l ) (fun Φ hΦ => ?_) ?_
  · refine WPl.inv2 (fun m fr h' => Gr h0 h' ∧ ∃ (k : Nat) (v : SV) (l : List Ro), k ≤ zs.length ∧ m = zs.length - k ∧ Tb h0.length h' h0.length v l ∧
      fr = [(0, some (.s av)), (1, some (.s (.int .i64 y0))), (2, some (.s (.int .i64 p0))), (3, some (.s (.int .i64 r0))), (9, some (.s (.ptr h0.length 0))), (10, some (.s (.int .i64 k)))]) ?_ _ _ _ ⟨Gr.self _ _, 0, _, _, Nat.zero_le _, rfl, new_tb h0, by simp⟩
    rintro I hI m fr h' ⟨gr, k, v, l, hk, rfl, t, rfl⟩
    refine ⟨by simp [keepF, fget], ?_⟩
    have rl := (rA.gr gr).len
    by_cases h12 : k < 12
    · have h12' : (k : Int) < 12 := by omega
      by_cases hlt : k < zs.length
      · obtain ⟨j0, q0, o0, ob0, vs0, rfl, c1, c2, c3, -, c4⟩ := (rA.gr gr).at encA_len hlt
        have c5 := lt_of_some c1
        have f1 := c4 1 (by omega)
        have f2 := c4 2 (by omega)
        have f3 := c4 3 (by omega)
        simp only [encA] at f1 f2 f3
        have f1' : vs0[(o0 + k) * 5 + 1]? = some (.int .i64 zs[k].y) := f1
        have f2' : vs0[(o0 + k) * 5 + 2]? = some (.int .i64 zs[k].r) := f2
        have f3' : vs0[(o0 + k) * 5 + 3]? = some (.int .i64 zs[k].p) := f3
        have y1 := fun h => within_ok zs[k].y 6 (by omega) h
        have y2 := fun h => within_ok zs[k].r 1000001 (by omega) h
        have y3 := fun h => within_ok zs[k].p 8 (by omega) h
        generalize zs[k] = x at *
        have w3 : IntKind.i64.wrap ((k : Int) + 1) = ((k + 1 : Nat) : Int) := wrap_small (by omega) (by omega)
        obtain ⟨u, h2, e, c, rfl, v2, t2⟩ := add_ok t uk (x.y % 6) (x.r % 1000001) (x.p % 8)
        have e' := e
        unfold uk at e'
        have g2 := c.base t gr
        simp [l12_0, l12_0_1, wpk_skip, wpk_seq, k_cond, wpk_block, wpk_exit, wpk_ret, wpk_loop, k_ops, k_draw0, t_nil, t_cons, KT_eq, KD_eq, wpo_nil, k_cons, k_step, mt_some, mtk_some, KO_eq, KP_eq, K_normal, K_ret, K_exit, KB_normal, KB_ret, KB_exit, KL_normal, KL_ret, KL_exit, k_ret, k_normal, stepE, isCall, calleeE, opE, wantE, odE, odS, odL, odSL, fget, fput, initE, keepF, List.map_cons, List.map_nil, binE, intOp, strOp, shOp, unE, eqpE, eqnE, neqB, ressE, resE, packL, packE, flat1, fcells, fillE, setL, cellsOf_bind, cellsO_own, cellsO_ro, lenE_sl, lenE_nils, lenE_sl0, bound, rep, minE, maxE, List.getElem?_cons_zero, List.getElem?_cons_succ, get_lt, set_lt, get_len, get_len_add, set_len, set_len_add, List.append_assoc, List.cons_append, List.nil_append, rl, hlt, h12, h12', -getElem?_pos]
        refine k_draw ?_
        simp [wpk_skip, wpk_seq, k_cond, wpk_block, wpk_exit, wpk_ret, wpk_loop, k_ops, k_draw0, t_nil, t_cons, KT_eq, KD_eq, wpo_nil, k_cons, k_step, mt_some, mtk_some, KO_eq, KP_eq, K_normal, K_ret, K_exit, KB_normal, KB_ret, KB_exit, KL_normal, KL_ret, KL_exit, k_ret, k_normal, stepE, isCall, calleeE, opE, wantE, odE, odS, odL, odSL, fget, fput, initE, keepF, List.map_cons, List.map_nil, binE, intOp, strOp, shOp, unE, eqpE, eqnE, neqB, ressE, resE, packL, packE, flat1, fcells, fillE, setL, cellsOf_bind, cellsO_own, cellsO_ro, lenE_sl, lenE_nils, lenE_sl0, bound, rep, minE, maxE, List.getElem?_cons_zero, List.getElem?_cons_succ, get_lt, set_lt, get_len, get_len_add, set_len, set_len_add, List.append_assoc, List.cons_append, List.nil_append, slotsG, slotsE, odT, odsT, optT, partsT, okPairs, okPair, changesE, frLt, nmV, nmVL, nmL, nmS, -getElem?_pos, c1, c2, c5, f1', f2', f3', y1, y2, y3, e', w3, hlt]
        exact ⟨_, by omega, hI _ _ _ ⟨g2, k + 1, v2, _, hlt, rfl, t2, rfl⟩⟩
      · simp [wpk_skip, wpk_seq, k_cond, wpk_block, wpk_exit, wpk_ret, wpk_loop, k_ops, k_draw0, t_nil, t_cons, KT_eq, KD_eq, wpo_nil, k_cons, k_step, mt_some, mtk_some, KO_eq, KP_eq, K_normal, K_ret, K_exit, KB_normal, KB_ret, KB_exit, KL_normal, KL_ret, KL_exit, k_ret, k_normal, stepE, isCall, calleeE, opE, wantE, odE, odS, odL, odSL, fget, fput, initE, keepF, List.map_cons, List.map_nil, binE, intOp, strOp, shOp, unE, eqpE, eqnE, neqB, ressE, resE, packL, packE, flat1, fcells, fillE, setL, cellsOf_bind, cellsO_own, cellsO_ro, lenE_sl, lenE_nils, lenE_sl0, bound, rep, minE, maxE, List.getElem?_cons_zero, List.getElem?_cons_succ, get_lt, set_lt, get_len, get_len_add, set_len, set_len_add, List.append_assoc, List.cons_append, List.nil_append, -getElem?_pos, l12_0_1, l12_0, rl, hlt]
        exact hΦ _ _ _ ⟨rfl, rfl, gr, v, l, t⟩
    · have h12' : ¬ (k : Int) < 12 := by omega
      by_cases hlt : k < zs.length
      · simp [wpk_skip, wpk_seq, k_cond, wpk_block, wpk_exit, wpk_ret, wpk_loop, k_ops, k_draw0, t_nil, t_cons, KT_eq, KD_eq, wpo_nil, k_cons, k_step, mt_some, mtk_some, KO_eq, KP_eq, K_normal, K_ret, K_exit, KB_normal, KB_ret, KB_exit, KL_normal, KL_ret, KL_exit, k_ret, k_normal, stepE, isCall, calleeE, opE, wantE, odE, odS, odL, odSL, fget, fput, initE, keepF, List.map_cons, List.map_nil, binE, intOp, strOp, shOp, unE, eqpE, eqnE, neqB, ressE, resE, packL, packE, flat1, fcells, fillE, setL, cellsOf_bind, cellsO_own, cellsO_ro, lenE_sl, lenE_nils, lenE_sl0, bound, rep, minE, maxE, List.getElem?_cons_zero, List.getElem?_cons_succ, get_lt, set_lt, get_len, get_len_add, set_len, set_len_add, List.append_assoc, List.cons_append, List.nil_append, -getElem?_pos, l12_0_1, l12_0, rl, hlt, h12, h12']
        exact hΦ _ _ _ ⟨rfl, rfl, gr, v, l, t⟩
      · simp [wpk_skip, wpk_seq, k_cond, wpk_block, wpk_exit, wpk_ret, wpk_loop, k_ops, k_draw0, t_nil, t_cons, KT_eq, KD_eq, wpo_nil, k_cons, k_step, mt_some, mtk_some, KO_eq, KP_eq, K_normal, K_ret, K_exit, KB_normal, KB_ret, KB_exit, KL_normal, KL_ret, KL_exit, k_ret, k_normal, stepE, isCall, calleeE, opE, wantE, odE, odS, odL, odSL, fget, fput, initE, keepF, List.map_cons, List.map_nil, binE, intOp, strOp, shOp, unE, eqpE, eqnE, neqB, ressE, resE, packL, packE, flat1, fcells, fillE, setL, cellsOf_bind, cellsO_own, cellsO_ro, lenE_sl, lenE_nils, lenE_sl0, bound, rep, minE, maxE, List.getElem?_cons_zero, List.getElem?_cons_succ, get_lt, set_lt, get_len, get_len_add, set_len, set_len_add, List.append_assoc, List.cons_append, List.nil_append, -getElem?_pos, l12_0_1, l12_0, rl, hlt, h12, h12']
        exact hΦ _ _ _ ⟨rfl, rfl, gr, v, l, t⟩
  · rintro x fr' h1 ⟨rfl, rfl, g1, v, l, t⟩
    simp [wpk_skip, wpk_seq, k_cond, wpk_block, wpk_exit, wpk_ret, wpk_loop, k_ops, k_draw0, t_nil, t_cons, KT_eq, KD_eq, wpo_nil, k_cons, k_step, mt_some, mtk_some, KO_eq, KP_eq, K_normal, K_ret, K_exit, KB_normal, KB_ret, KB_exit, KL_normal, KL_ret, KL_exit, k_ret, k_normal, stepE, isCall, calleeE, opE, wantE, odE, odS, odL, odSL, fget, fput, initE, keepF, List.map_cons, List.map_nil, binE, intOp, strOp, shOp, unE, eqpE, eqnE, neqB, ressE, resE, packL, packE, flat1, fcells, fillE, setL, cellsOf_bind, cellsO_own, cellsO_ro, lenE_sl, lenE_nils, lenE_sl0, bound, rep, minE, maxE, List.getElem?_cons_zero, List.getElem?_cons_succ, get_lt, set_lt, get_len, get_len_add, set_len, set_len_add, List.append_assoc, List.cons_append, List.nil_append, -getElem?_pos, s12_4]
    refine WPc.go (clone35_ok t) ?_
    rintro _ h2 ⟨g2, ic, vc, rfl, tc⟩
    have y1 := fun h => within_ok y0 6 (by omega) h
    have y2 := fun h => within_ok p0 8 (by omega) h
    have y3 := fun h => within_ok r0 1000001 (by omega) h
    generalize y0 % 6 = y at *
    generalize p0 % 8 = p at *
    generalize r0 % 1000001 = r at *
    simp [wpk_skip, wpk_seq, k_cond, wpk_block, wpk_exit, wpk_ret, wpk_loop, k_ops, k_draw0, t_nil, t_cons, KT_eq, KD_eq, wpo_nil, k_cons, k_step, mt_some, mtk_some, KO_eq, KP_eq, K_normal, K_ret, K_exit, KB_normal, KB_ret, KB_exit, KL_normal, KL_ret, KL_exit, k_ret, k_normal, stepE, isCall, calleeE, opE, wantE, odE, odS, odL, odSL, fget, fput, initE, keepF, List.map_cons, List.map_nil, binE, intOp, strOp, shOp, unE, eqpE, eqnE, neqB, ressE, resE, packL, packE, flat1, fcells, fillE, setL, cellsOf_bind, cellsO_own, cellsO_ro, lenE_sl, lenE_nils, lenE_sl0, bound, rep, minE, maxE, List.getElem?_cons_zero, List.getElem?_cons_succ, get_lt, set_lt, get_len, get_len_add, set_len, set_len_add, List.append_assoc, List.cons_append, List.nil_append, -getElem?_pos, s12_5, s12_6, s12_7, y1, y2, y3]
    refine WPc.go (add_ok tc uk y r p) ?_
    rintro _ h3 ⟨c3, rfl, vc3, tc3⟩
    have g3 := c3.base tc g2
    have t3 := t.gr g3
    have same := fun k m H => grow_same (j := uk) (l := l) (y := y) (r := r) (p := p) (k := k) (m := m) H
    have some' := fun k m H => grow_some (j := uk) (l := l) (y := y) (r := r) (p := p) (k := k) (m := m) H
    have new := grow_new (j := uk) (l := l) (y := y) (r := r) (p := p)
    generalize (addR l uk y r p).2 = l' at *
    obtain ⟨is, his⟩ : ∃ b, b = ((addR l uk y r p).1 == 0) := ⟨_, rfl⟩
    rw [← his] at same new
    simp [wpk_skip, wpk_seq, k_cond, wpk_block, wpk_exit, wpk_ret, wpk_loop, k_ops, k_draw0, t_nil, t_cons, KT_eq, KD_eq, wpo_nil, k_cons, k_step, mt_some, mtk_some, KO_eq, KP_eq, K_normal, K_ret, K_exit, KB_normal, KB_ret, KB_exit, KL_normal, KL_ret, KL_exit, k_ret, k_normal, stepE, isCall, calleeE, opE, wantE, odE, odS, odL, odSL, fget, fput, initE, keepF, List.map_cons, List.map_nil, binE, intOp, strOp, shOp, unE, eqpE, eqnE, neqB, ressE, resE, packL, packE, flat1, fcells, fillE, setL, cellsOf_bind, cellsO_own, cellsO_ro, lenE_sl, lenE_nils, lenE_sl0, bound, rep, minE, maxE, List.getElem?_cons_zero, List.getElem?_cons_succ, get_lt, set_lt, get_len, get_len_add, set_len, set_len_add, List.append_assoc, List.cons_append, List.nil_append, -getElem?_pos, ← his, s12_8]
    refine WPl.post (fun x fr' h' => x = .exit 2 ∧ fr' = [(1, some (.s (.int .i64 y))), (2, some (.s (.int .i64 p))), (3, some (.s (.int .i64 r))), (11, some (.s (.ptr ic 0))), (12, some (.s (.bool is)))] ∧ Gr h3 h') (fun Φ hΦ => ?_) ?_
    · refine WPl.inv2 (fun n fr h' => Gr h3 h' ∧ ∃ (k : Nat), k ≤ 8 ∧ n = 8 - k ∧
        fr = [(1, some (.s (.int .i64 y))), (2, some (.s (.int .i64 p))), (3, some (.s (.int .i64 r))), (9, some (.s (.ptr h0.length 0))), (11, some (.s (.ptr ic 0))), (12, some (.s (.bool is))), (13, some (.s (.int .i64 k)))]) ?_ _ _ _ ⟨Gr.refl _, 0, Nat.zero_le _, rfl, by simp⟩
      rintro I hI n fr h' ⟨gr, k, hk, rfl, rfl⟩
      refine ⟨by simp [keepF, fget], ?_⟩
      by_cases hlt : k < 8
      · have hlt' : (k : Int) < 8 := by omega
        have w3 : IntKind.i64.wrap ((k : Int) + 1) = ((k + 1 : Nat) : Int) := wrap_small (by omega) (by omega)
        simp [wpk_skip, wpk_seq, k_cond, wpk_block, wpk_exit, wpk_ret, wpk_loop, k_ops, k_draw0, t_nil, t_cons, KT_eq, KD_eq, wpo_nil, k_cons, k_step, mt_some, mtk_some, KO_eq, KP_eq, K_normal, K_ret, K_exit, KB_normal, KB_ret, KB_exit, KL_normal, KL_ret, KL_exit, k_ret, k_normal, stepE, isCall, calleeE, opE, wantE, odE, odS, odL, odSL, fget, fput, initE, keepF, List.map_cons, List.map_nil, binE, intOp, strOp, shOp, unE, eqpE, eqnE, neqB, ressE, resE, packL, packE, flat1, fcells, fillE, setL, cellsOf_bind, cellsO_own, cellsO_ro, lenE_sl, lenE_nils, lenE_sl0, bound, rep, minE, maxE, List.getElem?_cons_zero, List.getElem?_cons_succ, get_lt, set_lt, get_len, get_len_add, set_len, set_len_add, List.append_assoc, List.cons_append, List.nil_append, -getElem?_pos, l12_2, l12_2_1, hlt, hlt']
        refine WPl.post (fun x fr' h'' => x = .exit 4 ∧ fr' = [(1, some (.s (.int .i64 y))), (2, some (.s (.int .i64 p))), (3, some (.s (.int .i64 r))), (9, some (.s (.ptr h0.length 0))), (11, some (.s (.ptr ic 0))), (12, some (.s (.bool is))), (13, some (.s (.int .i64 k)))] ∧ Gr h3 h'') (fun Φ2 hΦ2 => ?_) ?_
        · refine WPl.inv2 (fun n fr h'' => Gr h3 h'' ∧ ∃ (m : Nat), m ≤ 10 ∧ n = 10 - m ∧
            fr = [(1, some (.s (.int .i64 y))), (2, some (.s (.int .i64 p))), (3, some (.s (.int .i64 r))), (9, some (.s (.ptr h0.length 0))), (11, some (.s (.ptr ic 0))), (12, some (.s (.bool is))), (13, some (.s (.int .i64 k))), (14, some (.s (.int .i64 m)))]) ?_ _ _ _ ⟨gr, 0, Nat.zero_le _, rfl, by simp⟩
          rintro J hJ n fr h5 ⟨gr5, m, hm, rfl, rfl⟩
          refine ⟨by simp [keepF, fget], ?_⟩
          by_cases mlt : m < 10
          · have mlt' : (m : Int) < 10 := by omega
            have w4 : IntKind.i64.wrap ((m : Int) + 1) = ((m + 1 : Nat) : Int) := wrap_small (by omega) (by omega)
            simp [wpk_skip, wpk_seq, k_cond, wpk_block, wpk_exit, wpk_ret, wpk_loop, k_ops, k_draw0, t_nil, t_cons, KT_eq, KD_eq, wpo_nil, k_cons, k_step, mt_some, mtk_some, KO_eq, KP_eq, K_normal, K_ret, K_exit, KB_normal, KB_ret, KB_exit, KL_normal, KL_ret, KL_exit, k_ret, k_normal, stepE, isCall, calleeE, opE, wantE, odE, odS, odL, odSL, fget, fput, initE, keepF, List.map_cons, List.map_nil, binE, intOp, strOp, shOp, unE, eqpE, eqnE, neqB, ressE, resE, packL, packE, flat1, fcells, fillE, setL, cellsOf_bind, cellsO_own, cellsO_ro, lenE_sl, lenE_nils, lenE_sl0, bound, rep, minE, maxE, List.getElem?_cons_zero, List.getElem?_cons_succ, get_lt, set_lt, get_len, get_len_add, set_len, set_len_add, List.append_assoc, List.cons_append, List.nil_append, -getElem?_pos, l12_1, l12_1_1, mlt, mlt']
            refine WPc.go ((t3.gr gr5).rate uk k m) ?_
            rintro _ h6 ⟨g6, rfl⟩
            have gr6 := gr5.trans g6
            simp [wpk_skip, wpk_seq, k_cond, wpk_block, wpk_exit, wpk_ret, wpk_loop, k_ops, k_draw0, t_nil, t_cons, KT_eq, KD_eq, wpo_nil, k_cons, k_step, mt_some, mtk_some, KO_eq, KP_eq, K_normal, K_ret, K_exit, KB_normal, KB_ret, KB_exit, KL_normal, KL_ret, KL_exit, k_ret, k_normal, stepE, isCall, calleeE, opE, wantE, odE, odS, odL, odSL, fget, fput, initE, keepF, List.map_cons, List.map_nil, binE, intOp, strOp, shOp, unE, eqpE, eqnE, neqB, ressE, resE, packL, packE, flat1, fcells, fillE, setL, cellsOf_bind, cellsO_own, cellsO_ro, lenE_sl, lenE_nils, lenE_sl0, bound, rep, minE, maxE, List.getElem?_cons_zero, List.getElem?_cons_succ, get_lt, set_lt, get_len, get_len_add, set_len, set_len_add, List.append_assoc, List.cons_append, List.nil_append, -getElem?_pos, ]
            refine WPc.go ((tc3.gr gr6).rate uk k m) ?_
            rintro _ h7 ⟨g7, rfl⟩
            have gr7 := gr6.trans g7
            have eqs : ((k : Int) < y ∨ (m : Int) < p ∨ is = false) → bestF uk k m l' = bestF uk k m l := same k m
            have sms := some' k m
            have fin : ∃ q, q < 10 - m ∧ J q [(1, some (.s (.int .i64 y))), (2, some (.s (.int .i64 p))), (3, some (.s (.int .i64 r))), (9, some (.s (.ptr h0.length 0))), (11, some (.s (.ptr ic 0))), (12, some (.s (.bool is))), (13, some (.s (.int .i64 k))), (14, some (.s (.int .i64 ((m : Int) + 1))))] h7 := ⟨_, by omega, hJ _ _ _ ⟨gr7, m + 1, mlt, rfl, rfl⟩⟩
            generalize bestF uk k m l' = B' at *
            generalize bestF uk k m l = B at *
            have q1 : (rateOf B != rateOf B) = false := by simp
            have q2 : (B.isSome && !B.isSome) = false := by cases B.isSome <;> rfl
            by_cases a1 : (k : Int) < y
            · obtain rfl := eqs (.inl a1)
              cases hB : B'.isSome <;> (rw [hB] at *; simp [wpk_skip, wpk_seq, k_cond, wpk_block, wpk_exit, wpk_ret, wpk_loop, k_ops, k_draw0, t_nil, t_cons, KT_eq, KD_eq, wpo_nil, k_cons, k_step, mt_some, mtk_some, KO_eq, KP_eq, K_normal, K_ret, K_exit, KB_normal, KB_ret, KB_exit, KL_normal, KL_ret, KL_exit, k_ret, k_normal, stepE, isCall, calleeE, opE, wantE, odE, odS, odL, odSL, fget, fput, initE, keepF, List.map_cons, List.map_nil, binE, intOp, strOp, shOp, unE, eqpE, eqnE, neqB, ressE, resE, packL, packE, flat1, fcells, fillE, setL, cellsOf_bind, cellsO_own, cellsO_ro, lenE_sl, lenE_nils, lenE_sl0, bound, rep, minE, maxE, List.getElem?_cons_zero, List.getElem?_cons_succ, get_lt, set_lt, get_len, get_len_add, set_len, set_len_add, List.append_assoc, List.cons_append, List.nil_append, -getElem?_pos, a1, q1, w4]; exact fin)
            · by_cases a2 : (m : Int) < p
              · obtain rfl := eqs (.inr (.inl a2))
                cases hB : B'.isSome <;> (rw [hB] at *; simp [wpk_skip, wpk_seq, k_cond, wpk_block, wpk_exit, wpk_ret, wpk_loop, k_ops, k_draw0, t_nil, t_cons, KT_eq, KD_eq, wpo_nil, k_cons, k_step, mt_some, mtk_some, KO_eq, KP_eq, K_normal, K_ret, K_exit, KB_normal, KB_ret, KB_exit, KL_normal, KL_ret, KL_exit, k_ret, k_normal, stepE, isCall, calleeE, opE, wantE, odE, odS, odL, odSL, fget, fput, initE, keepF, List.map_cons, List.map_nil, binE, intOp, strOp, shOp, unE, eqpE, eqnE, neqB, ressE, resE, packL, packE, flat1, fcells, fillE, setL, cellsOf_bind, cellsO_own, cellsO_ro, lenE_sl, lenE_nils, lenE_sl0, bound, rep, minE, maxE, List.getElem?_cons_zero, List.getElem?_cons_succ, get_lt, set_lt, get_len, get_len_add, set_len, set_len_add, List.append_assoc, List.cons_append, List.nil_append, -getElem?_pos, a1, a2, q1, w4]; exact fin)
              · cases is with
                | false =>
                  obtain rfl := eqs (.inr (.inr rfl))
                  cases hB : B'.isSome <;> (rw [hB] at *; simp [wpk_skip, wpk_seq, k_cond, wpk_block, wpk_exit, wpk_ret, wpk_loop, k_ops, k_draw0, t_nil, t_cons, KT_eq, KD_eq, wpo_nil, k_cons, k_step, mt_some, mtk_some, KO_eq, KP_eq, K_normal, K_ret, K_exit, KB_normal, KB_ret, KB_exit, KL_normal, KL_ret, KL_exit, k_ret, k_normal, stepE, isCall, calleeE, opE, wantE, odE, odS, odL, odSL, fget, fput, initE, keepF, List.map_cons, List.map_nil, binE, intOp, strOp, shOp, unE, eqpE, eqnE, neqB, ressE, resE, packL, packE, flat1, fcells, fillE, setL, cellsOf_bind, cellsO_own, cellsO_ro, lenE_sl, lenE_nils, lenE_sl0, bound, rep, minE, maxE, List.getElem?_cons_zero, List.getElem?_cons_succ, get_lt, set_lt, get_len, get_len_add, set_len, set_len_add, List.append_assoc, List.cons_append, List.nil_append, -getElem?_pos, a1, a2, q1, w4]; exact fin)
                | true =>
                  cases hB : B.isSome with
                  | false =>
                    cases hB' : B'.isSome <;> (rw [hB, hB'] at *; simp [wpk_skip, wpk_seq, k_cond, wpk_block, wpk_exit, wpk_ret, wpk_loop, k_ops, k_draw0, t_nil, t_cons, KT_eq, KD_eq, wpo_nil, k_cons, k_step, mt_some, mtk_some, KO_eq, KP_eq, K_normal, K_ret, K_exit, KB_normal, KB_ret, KB_exit, KL_normal, KL_ret, KL_exit, k_ret, k_normal, stepE, isCall, calleeE, opE, wantE, odE, odS, odL, odSL, fget, fput, initE, keepF, List.map_cons, List.map_nil, binE, intOp, strOp, shOp, unE, eqpE, eqnE, neqB, ressE, resE, packL, packE, flat1, fcells, fillE, setL, cellsOf_bind, cellsO_own, cellsO_ro, lenE_sl, lenE_nils, lenE_sl0, bound, rep, minE, maxE, List.getElem?_cons_zero, List.getElem?_cons_succ, get_lt, set_lt, get_len, get_len_add, set_len, set_len_add, List.append_assoc, List.cons_append, List.nil_append, -getElem?_pos, a1, a2, q1, w4]; exact fin)
                  | true =>
                    have hB' := sms hB
                    rw [hB, hB'] at *
                    simp [wpk_skip, wpk_seq, k_cond, wpk_block, wpk_exit, wpk_ret, wpk_loop, k_ops, k_draw0, t_nil, t_cons, KT_eq, KD_eq, wpo_nil, k_cons, k_step, mt_some, mtk_some, KO_eq, KP_eq, K_normal, K_ret, K_exit, KB_normal, KB_ret, KB_exit, KL_normal, KL_ret, KL_exit, k_ret, k_normal, stepE, isCall, calleeE, opE, wantE, odE, odS, odL, odSL, fget, fput, initE, keepF, List.map_cons, List.map_nil, binE, intOp, strOp, shOp, unE, eqpE, eqnE, neqB, ressE, resE, packL, packE, flat1, fcells, fillE, setL, cellsOf_bind, cellsO_own, cellsO_ro, lenE_sl, lenE_nils, lenE_sl0, bound, rep, minE, maxE, List.getElem?_cons_zero, List.getElem?_cons_succ, get_lt, set_lt, get_len, get_len_add, set_len, set_len_add, List.append_assoc, List.cons_append, List.nil_append, -getElem?_pos, a1, a2, q1, w4]
                    exact fin
          · have mlt' : ¬ (m : Int) < 10 := by omega
            simp [wpk_skip, wpk_seq, k_cond, wpk_block, wpk_exit, wpk_ret, wpk_loop, k_ops, k_draw0, t_nil, t_cons, KT_eq, KD_eq, wpo_nil, k_cons, k_step, mt_some, mtk_some, KO_eq, KP_eq, K_normal, K_ret, K_exit, KB_normal, KB_ret, KB_exit, KL_normal, KL_ret, KL_exit, k_ret, k_normal, stepE, isCall, calleeE, opE, wantE, odE, odS, odL, odSL, fget, fput, initE, keepF, List.map_cons, List.map_nil, binE, intOp, strOp, shOp, unE, eqpE, eqnE, neqB, ressE, resE, packL, packE, flat1, fcells, fillE, setL, cellsOf_bind, cellsO_own, cellsO_ro, lenE_sl, lenE_nils, lenE_sl0, bound, rep, minE, maxE, List.getElem?_cons_zero, List.getElem?_cons_succ, get_lt, set_lt, get_len, get_len_add, set_len, set_len_add, List.append_assoc, List.cons_append, List.nil_append, -getElem?_pos, l12_1, l12_1_1, mlt, mlt']
            exact hΦ2 _ _ _ ⟨rfl, rfl, gr5⟩
        · rintro x fr' h5 ⟨rfl, rfl, gr5⟩
          simp [wpk_skip, wpk_seq, k_cond, wpk_block, wpk_exit, wpk_ret, wpk_loop, k_ops, k_draw0, t_nil, t_cons, KT_eq, KD_eq, wpo_nil, k_cons, k_step, mt_some, mtk_some, KO_eq, KP_eq, K_normal, K_ret, K_exit, KB_normal, KB_ret, KB_exit, KL_normal, KL_ret, KL_exit, k_ret, k_normal, stepE, isCall, calleeE, opE, wantE, odE, odS, odL, odSL, fget, fput, initE, keepF, List.map_cons, List.map_nil, binE, intOp, strOp, shOp, unE, eqpE, eqnE, neqB, ressE, resE, packL, packE, flat1, fcells, fillE, setL, cellsOf_bind, cellsO_own, cellsO_ro, lenE_sl, lenE_nils, lenE_sl0, bound, rep, minE, maxE, List.getElem?_cons_zero, List.getElem?_cons_succ, get_lt, set_lt, get_len, get_len_add, set_len, set_len_add, List.append_assoc, List.cons_append, List.nil_append, -getElem?_pos, w3]
          exact ⟨_, by omega, hI _ _ _ ⟨gr5, k + 1, hlt, rfl, rfl⟩⟩
      · have hlt' : ¬ (k : Int) < 8 := by omega
        simp [wpk_skip, wpk_seq, k_cond, wpk_block, wpk_exit, wpk_ret, wpk_loop, k_ops, k_draw0, t_nil, t_cons, KT_eq, KD_eq, wpo_nil, k_cons, k_step, mt_some, mtk_some, KO_eq, KP_eq, K_normal, K_ret, K_exit, KB_normal, KB_ret, KB_exit, KL_normal, KL_ret, KL_exit, k_ret, k_normal, stepE, isCall, calleeE, opE, wantE, odE, odS, odL, odSL, fget, fput, initE, keepF, List.map_cons, List.map_nil, binE, intOp, strOp, shOp, unE, eqpE, eqnE, neqB, ressE, resE, packL, packE, flat1, fcells, fillE, setL, cellsOf_bind, cellsO_own, cellsO_ro, lenE_sl, lenE_nils, lenE_sl0, bound, rep, minE, maxE, List.getElem?_cons_zero, List.getElem?_cons_succ, get_lt, set_lt, get_len, get_len_add, set_len, set_len_add, List.append_assoc, List.cons_append, List.nil_append, -getElem?_pos, l12_2, l12_2_1, hlt, hlt']
        exact hΦ _ _ _ ⟨rfl, rfl, gr⟩
    · rintro x fr' h4 ⟨rfl, rfl, gr⟩
      simp [wpk_skip, wpk_seq, k_cond, wpk_block, wpk_exit, wpk_ret, wpk_loop, k_ops, k_draw0, t_nil, t_cons, KT_eq, KD_eq, wpo_nil, k_cons, k_step, mt_some, mtk_some, KO_eq, KP_eq, K_normal, K_ret, K_exit, KB_normal, KB_ret, KB_exit, KL_normal, KL_ret, KL_exit, k_ret, k_normal, stepE, isCall, calleeE, opE, wantE, odE, odS, odL, odSL, fget, fput, initE, keepF, List.map_cons, List.map_nil, binE, intOp, strOp, shOp, unE, eqpE, eqnE, neqB, ressE, resE, packL, packE, flat1, fcells, fillE, setL, cellsOf_bind, cellsO_own, cellsO_ro, lenE_sl, lenE_nils, lenE_sl0, bound, rep, minE, maxE, List.getElem?_cons_zero, List.getElem?_cons_succ, get_lt, set_lt, get_len, get_len_add, set_len, set_len_add, List.append_assoc, List.cons_append, List.nil_append, -getElem?_pos, s12_9]
      refine WPc.go ((tc3.gr gr).rate uk y p) ?_
      rintro _ h5 ⟨g5, rfl⟩
      cases is with
      | false =>
        simp [wpk_skip, wpk_seq, k_cond, wpk_block, wpk_exit, wpk_ret, wpk_loop, k_ops, k_draw0, t_nil, t_cons, KT_eq, KD_eq, wpo_nil, k_cons, k_step, mt_some, mtk_some, KO_eq, KP_eq, K_normal, K_ret, K_exit, KB_normal, KB_ret, KB_exit, KL_normal, KL_ret, KL_exit, k_ret, k_normal, stepE, isCall, calleeE, opE, wantE, odE, odS, odL, odSL, fget, fput, initE, keepF, List.map_cons, List.map_nil, binE, intOp, strOp, shOp, unE, eqpE, eqnE, neqB, ressE, resE, packL, packE, flat1, fcells, fillE, setL, cellsOf_bind, cellsO_own, cellsO_ro, lenE_sl, lenE_nils, lenE_sl0, bound, rep, minE, maxE, List.getElem?_cons_zero, List.getElem?_cons_succ, get_lt, set_lt, get_len, get_len_add, set_len, set_len_add, List.append_assoc, List.cons_append, List.nil_append, -getElem?_pos, s12_10]
        refine WPc.go (wakes_ok _) ?_
        rintro _ h6 ⟨g6, rfl⟩
        simp [wpk_skip, wpk_seq, k_cond, wpk_block, wpk_exit, wpk_ret, wpk_loop, k_ops, k_draw0, t_nil, t_cons, KT_eq, KD_eq, wpo_nil, k_cons, k_step, mt_some, mtk_some, KO_eq, KP_eq, K_normal, K_ret, K_exit, KB_normal, KB_ret, KB_exit, KL_normal, KL_ret, KL_exit, k_ret, k_normal, stepE, isCall, calleeE, opE, wantE, odE, odS, odL, odSL, fget, fput, initE, keepF, List.map_cons, List.map_nil, binE, intOp, strOp, shOp, unE, eqpE, eqnE, neqB, ressE, resE, packL, packE, flat1, fcells, fillE, setL, cellsOf_bind, cellsO_own, cellsO_ro, lenE_sl, lenE_nils, lenE_sl0, bound, rep, minE, maxE, List.getElem?_cons_zero, List.getElem?_cons_succ, get_lt, set_lt, get_len, get_len_add, set_len, set_len_add, List.append_assoc, List.cons_append, List.nil_append, -getElem?_pos]
        exact hΨ _ _ rfl
      | true =>
        rw [new rfl]
        simp [wpk_skip, wpk_seq, k_cond, wpk_block, wpk_exit, wpk_ret, wpk_loop, k_ops, k_draw0, t_nil, t_cons, KT_eq, KD_eq, wpo_nil, k_cons, k_step, mt_some, mtk_some, KO_eq, KP_eq, K_normal, K_ret, K_exit, KB_normal, KB_ret, KB_exit, KL_normal, KL_ret, KL_exit, k_ret, k_normal, stepE, isCall, calleeE, opE, wantE, odE, odS, odL, odSL, fget, fput, initE, keepF, List.map_cons, List.map_nil, binE, intOp, strOp, shOp, unE, eqpE, eqnE, neqB, ressE, resE, packL, packE, flat1, fcells, fillE, setL, cellsOf_bind, cellsO_own, cellsO_ro, lenE_sl, lenE_nils, lenE_sl0, bound, rep, minE, maxE, List.getElem?_cons_zero, List.getElem?_cons_succ, get_lt, set_lt, get_len, get_len_add, set_len, set_len_add, List.append_assoc, List.cons_append, List.nil_append, -getElem?_pos, s12_10, rateOf]
        refine WPc.go (wakes_ok _) ?_
        rintro _ h6 ⟨g6, rfl⟩
        simp [wpk_skip, wpk_seq, k_cond, wpk_block, wpk_exit, wpk_ret, wpk_loop, k_ops, k_draw0, t_nil, t_cons, KT_eq, KD_eq, wpo_nil, k_cons, k_step, mt_some, mtk_some, KO_eq, KP_eq, K_normal, K_ret, K_exit, KB_normal, KB_ret, KB_exit, KL_normal, KL_ret, KL_exit, k_ret, k_normal, stepE, isCall, calleeE, opE, wantE, odE, odS, odL, odSL, fget, fput, initE, keepF, List.map_cons, List.map_nil, binE, intOp, strOp, shOp, unE, eqpE, eqnE, neqB, ressE, resE, packL, packE, flat1, fcells, fillE, setL, cellsOf_bind, cellsO_own, cellsO_ro, lenE_sl, lenE_nils, lenE_sl0, bound, rep, minE, maxE, List.getElem?_cons_zero, List.getElem?_cons_succ, get_lt, set_lt, get_len, get_len_add, set_len, set_len_add, List.append_assoc, List.cons_append, List.nil_append, -getElem?_pos]
        exact hΨ _ _ rfl
end Go.Proofs.Ytcimcccnhbbncaa.Ev.CE
