/- SplitTells on the small machine. -/
import Derived.Test.YtejoijjmlglhfaaSpR
set_option linter.unusedSimpArgs false
set_option linter.unusedVariables false
namespace Go.Proofs.Ytejoijjmlglhfaa.Ev.CS
open Go

def is64 (n : Int) : Prop := -9223372036854775808 ≤ n ∧ n < 9223372036854775808
theorem tdiv_64 {n : Int} (hn : is64 n) (d : Int) (hd : 1 < d) : IntKind.i64.wrap (n.tdiv d) = n.tdiv d := by
  have a1 : (n.tdiv d).natAbs ≤ n.natAbs := by
    rw [Int.natAbs_tdiv]; exact Nat.div_le_self _ _
  have a2 : n.natAbs ≤ 9223372036854775808 := by unfold is64 at hn; omega
  by_cases e : n = -9223372036854775808
  · have : (n.tdiv d).natAbs < 9223372036854775808 := by
      rw [Int.natAbs_tdiv]
      exact Nat.div_lt_of_lt_mul (by have : n.natAbs = 9223372036854775808 := by omega
                                     rw [this]; omega)
    exact wrap_small (by omega) (by omega)
  · have : n.natAbs < 9223372036854775808 := by unfold is64 at hn; omega
    exact wrap_small (by omega) (by omega)

theorem wrap_64 (n : Int) : is64 (IntKind.i64.wrap n) := by
  unfold is64
  simp [IntKind.wrap, IntKind.bits, IntKind.signed]; omega

def amountF (n : Int) : Int :=
  if n.tmod 23 = 20 then 100000000000 - (n.tdiv 23) % 5 + 2
  else if n.tmod 23 = 21 then -100000000000 + (n.tdiv 23) % 5 - 2
  else if n.tmod 23 = 22 then n
  else if n.tmod 23 = 19 then (n.tdiv 23) % 200000000001 - 100000000000
  else n % 4001 - 2000
theorem amount_64 {n : Int} (hn : is64 n) : is64 (amountF n) := by
  unfold amountF is64 at *
  have a1 : 0 ≤ (n.tdiv 23) % 5 ∧ (n.tdiv 23) % 5 < 5 := by omega
  have a2 : 0 ≤ (n.tdiv 23) % 200000000001 ∧ (n.tdiv 23) % 200000000001 < 200000000001 := by omega
  have a3 : 0 ≤ n % 4001 ∧ n % 4001 < 4001 := by omega
  split
  · omega
  · split
    · omega
    · split
      · omega
      · split <;> omega
theorem amount_ok {n : Int} (hn : is64 n) (h : LH) : callX C 13 [.s (.int .i64 n)] h = some (.s (.int .i64 (amountF n)), h) := by
  apply callX_wp
  refine WPc.intro (e := e13) rfl (by simp [e13]) ?_
  show WPk C b13 _ _ (KR [.tmp 2] _)
  have hd := tdiv_64 hn 23 (by omega)
  have a1 := Int.emod_lt_of_pos (n.tdiv 23) (show (0:Int) < 5 by omega)
  have a2 := Int.emod_nonneg (n.tdiv 23) (show (5:Int) ≠ 0 by omega)
  have b1 := Int.emod_lt_of_pos (n.tdiv 23) (show (0:Int) < 200000000001 by omega)
  have b2 := Int.emod_nonneg (n.tdiv 23) (show (200000000001:Int) ≠ 0 by omega)
  have c1 := Int.emod_lt_of_pos n (show (0:Int) < 4001 by omega)
  have c2 := Int.emod_nonneg n (show (4001:Int) ≠ 0 by omega)
  unfold amountF
  by_cases e0 : n.tmod 23 = 20
  · have w := within_ok (n.tdiv 23) 5 (by omega) h
    have w1 : IntKind.i64.wrap (100000000000 - n.tdiv 23 % 5) = 100000000000 - n.tdiv 23 % 5 := wrap_small (by omega) (by omega)
    have w2 : IntKind.i64.wrap (100000000000 - n.tdiv 23 % 5 + 2) = 100000000000 - n.tdiv 23 % 5 + 2 := wrap_small (by omega) (by omega)
    simp [wpk_skip, wpk_seq, k_cond, wpk_block, wpk_exit, wpk_ret, wpk_loop, k_ops, k_draw0, t_nil, t_cons, KT_eq, KD_eq, wpo_nil, k_cons, k_step, mt_some, mtk_some, KO_eq, KP_eq, K_normal, K_ret, K_exit, KB_normal, KB_ret, KB_exit, KL_normal, KL_ret, KL_exit, k_ret, k_normal, stepE, isCall, calleeE, opE, wantE, odE, odS, odL, odSL, fget, fput, initE, keepF, List.map_cons, List.map_nil, binE, intOp, strOp, shOp, unE, eqpE, eqnE, neqB, ressE, resE, packL, packE, flat1, fcells, fillE, setL, cellsOf_bind, cellsO_own, cellsO_ro, lenE_sl, lenE_nils, lenE_sl0, bound, rep, minE, maxE, List.getElem?_cons_zero, List.getElem?_cons_succ, get_lt, set_lt, get_len, get_len_add, set_len, set_len_add, List.append_assoc, List.cons_append, List.nil_append, -getElem?_pos, b13, s13_2, s13_1, e0, hd, w, w1, w2]
  by_cases e1 : n.tmod 23 = 21
  · have w := within_ok (n.tdiv 23) 5 (by omega) h
    have w1 : IntKind.i64.wrap (-100000000000 + n.tdiv 23 % 5) = -100000000000 + n.tdiv 23 % 5 := wrap_small (by omega) (by omega)
    have w2 : IntKind.i64.wrap (-100000000000 + n.tdiv 23 % 5 - 2) = -100000000000 + n.tdiv 23 % 5 - 2 := wrap_small (by omega) (by omega)
    simp [wpk_skip, wpk_seq, k_cond, wpk_block, wpk_exit, wpk_ret, wpk_loop, k_ops, k_draw0, t_nil, t_cons, KT_eq, KD_eq, wpo_nil, k_cons, k_step, mt_some, mtk_some, KO_eq, KP_eq, K_normal, K_ret, K_exit, KB_normal, KB_ret, KB_exit, KL_normal, KL_ret, KL_exit, k_ret, k_normal, stepE, isCall, calleeE, opE, wantE, odE, odS, odL, odSL, fget, fput, initE, keepF, List.map_cons, List.map_nil, binE, intOp, strOp, shOp, unE, eqpE, eqnE, neqB, ressE, resE, packL, packE, flat1, fcells, fillE, setL, cellsOf_bind, cellsO_own, cellsO_ro, lenE_sl, lenE_nils, lenE_sl0, bound, rep, minE, maxE, List.getElem?_cons_zero, List.getElem?_cons_succ, get_lt, set_lt, get_len, get_len_add, set_len, set_len_add, List.append_assoc, List.cons_append, List.nil_append, -getElem?_pos, b13, s13_2, s13_1, e1, hd, w, w1, w2]
  by_cases e2 : n.tmod 23 = 22
  · simp [wpk_skip, wpk_seq, k_cond, wpk_block, wpk_exit, wpk_ret, wpk_loop, k_ops, k_draw0, t_nil, t_cons, KT_eq, KD_eq, wpo_nil, k_cons, k_step, mt_some, mtk_some, KO_eq, KP_eq, K_normal, K_ret, K_exit, KB_normal, KB_ret, KB_exit, KL_normal, KL_ret, KL_exit, k_ret, k_normal, stepE, isCall, calleeE, opE, wantE, odE, odS, odL, odSL, fget, fput, initE, keepF, List.map_cons, List.map_nil, binE, intOp, strOp, shOp, unE, eqpE, eqnE, neqB, ressE, resE, packL, packE, flat1, fcells, fillE, setL, cellsOf_bind, cellsO_own, cellsO_ro, lenE_sl, lenE_nils, lenE_sl0, bound, rep, minE, maxE, List.getElem?_cons_zero, List.getElem?_cons_succ, get_lt, set_lt, get_len, get_len_add, set_len, set_len_add, List.append_assoc, List.cons_append, List.nil_append, -getElem?_pos, b13, s13_2, s13_1, e2]
  by_cases e3 : n.tmod 23 = 19
  · have w := within_ok (n.tdiv 23) 200000000001 (by omega) h
    have w1 : IntKind.i64.wrap (n.tdiv 23 % 200000000001 - 100000000000) = n.tdiv 23 % 200000000001 - 100000000000 := wrap_small (by omega) (by omega)
    simp [wpk_skip, wpk_seq, k_cond, wpk_block, wpk_exit, wpk_ret, wpk_loop, k_ops, k_draw0, t_nil, t_cons, KT_eq, KD_eq, wpo_nil, k_cons, k_step, mt_some, mtk_some, KO_eq, KP_eq, K_normal, K_ret, K_exit, KB_normal, KB_ret, KB_exit, KL_normal, KL_ret, KL_exit, k_ret, k_normal, stepE, isCall, calleeE, opE, wantE, odE, odS, odL, odSL, fget, fput, initE, keepF, List.map_cons, List.map_nil, binE, intOp, strOp, shOp, unE, eqpE, eqnE, neqB, ressE, resE, packL, packE, flat1, fcells, fillE, setL, cellsOf_bind, cellsO_own, cellsO_ro, lenE_sl, lenE_nils, lenE_sl0, bound, rep, minE, maxE, List.getElem?_cons_zero, List.getElem?_cons_succ, get_lt, set_lt, get_len, get_len_add, set_len, set_len_add, List.append_assoc, List.cons_append, List.nil_append, -getElem?_pos, b13, s13_2, s13_1, e3, hd, w, w1]
  · have w := within_ok n 4001 (by omega) h
    have w1 : IntKind.i64.wrap (n % 4001 - 2000) = n % 4001 - 2000 := wrap_small (by omega) (by omega)
    simp [wpk_skip, wpk_seq, k_cond, wpk_block, wpk_exit, wpk_ret, wpk_loop, k_ops, k_draw0, t_nil, t_cons, KT_eq, KD_eq, wpo_nil, k_cons, k_step, mt_some, mtk_some, KO_eq, KP_eq, K_normal, K_ret, K_exit, KB_normal, KB_ret, KB_exit, KL_normal, KL_ret, KL_exit, k_ret, k_normal, stepE, isCall, calleeE, opE, wantE, odE, odS, odL, odSL, fget, fput, initE, keepF, List.map_cons, List.map_nil, binE, intOp, strOp, shOp, unE, eqpE, eqnE, neqB, ressE, resE, packL, packE, flat1, fcells, fillE, setL, cellsOf_bind, cellsO_own, cellsO_ro, lenE_sl, lenE_nils, lenE_sl0, bound, rep, minE, maxE, List.getElem?_cons_zero, List.getElem?_cons_succ, get_lt, set_lt, get_len, get_len_add, set_len, set_len_add, List.append_assoc, List.cons_append, List.nil_append, -getElem?_pos, b13, s13_2, s13_1, e0, e1, e2, e3, w, w1]


theorem Rd.take {α : Type} {h : LH} {t z : Nat} {enc : α → List SV} {i p p' o n : Nat} {l : List α} (he : ∀ a, (enc a).length = z) (r : Rd h t z enc (.sl i p o n) l) {m : Nat} (hm : m ≤ l.length) : Rd h t z enc (.sl i p' o m) (l.take m) := by
  rcases r with ⟨_, e | ⟨_, _, _, e⟩⟩ | ⟨i', q, o', ob, vs, r1, r2, r3, r4, r5⟩
  · cases e
  · cases e
  · simp only [SV.sl.injEq] at r1
    obtain ⟨rfl, rfl, rfl, rfl⟩ := r1
    have hl : (l.take m).length = m := by simp; omega
    have hz : m * z ≤ l.length * z := Nat.mul_le_mul_right _ hm
    refine .inr ⟨i, p', o, ob, vs, by rw [hl], r2, r3, ?_, ?_⟩
    · rw [hl, Nat.add_mul]; rw [Nat.add_mul] at r4; omega
    · rw [hl, ← flat_take he, ← r5, List.take_take, Nat.min_eq_left hz]

theorem cut_ok {h : LH} {v : SV} {l : List Int} (hv : v = .nils ∨ ∃ j n, v = .sl j 0 0 n) (r : Rd h 3 1 encI v l) (n : Nat) (hn : n < 1000) : WPc C 12 [.s v, .s (.int .i64 n)] h fun u h' => Gr h h' ∧ ∃ w, u = .s w ∧ Ow h.length h' 3 encI w (l.take n) := by
  refine WPc.post fun Ψ hΨ => ?_
  refine WPc.intro (e := e12) rfl (by simp [e12]) ?_
  show WPk C b12 _ _ (KR [.tmp 4] _)
  have hmn : (if n < l.length then (n : Int) else (l.length : Int)) = ((min l.length n : Nat) : Int) := by split <;> omega
  have rl := r.len
  have ht : l.take (min l.length n) = l.take n := by
    by_cases c : l.length ≤ n
    · rw [Nat.min_eq_left c, List.take_length, List.take_of_length_le c]
    · rw [Nat.min_eq_right (by omega)]
  rcases hv with rfl | ⟨j, n', rfl⟩
  · have hl : l = [] := by
      have := rl
      simp only [lenE, Option.some.injEq] at this
      exact List.eq_nil_of_length_eq_zero this.symm
    subst hl
    have hmn : (if (n : Int) < 0 then (n : Int) else 0) = 0 := by split <;> omega
    simp [wpk_skip, wpk_seq, k_cond, wpk_block, wpk_exit, wpk_ret, wpk_loop, k_ops, k_draw0, t_nil, t_cons, KT_eq, KD_eq, wpo_nil, k_cons, k_step, mt_some, mtk_some, KO_eq, KP_eq, K_normal, K_ret, K_exit, KB_normal, KB_ret, KB_exit, KL_normal, KL_ret, KL_exit, k_ret, k_normal, stepE, isCall, calleeE, opE, wantE, odE, odS, odL, odSL, fget, fput, initE, keepF, List.map_cons, List.map_nil, binE, intOp, strOp, shOp, unE, eqpE, eqnE, neqB, ressE, resE, packL, packE, flat1, fcells, fillE, setL, cellsOf_bind, cellsO_own, cellsO_ro, lenE_sl, lenE_nils, lenE_sl0, bound, rep, minE, maxE, List.getElem?_cons_zero, List.getElem?_cons_succ, get_lt, set_lt, get_len, get_len_add, set_len, set_len_add, List.append_assoc, List.cons_append, List.nil_append, -getElem?_pos, b12, s12_1, hmn]
    refine WPc.go (copy_ok r (by simp)) ?_
    rintro _ h1 ⟨g1, w, rfl, ow⟩
    simp [wpk_skip, wpk_seq, k_cond, wpk_block, wpk_exit, wpk_ret, wpk_loop, k_ops, k_draw0, t_nil, t_cons, KT_eq, KD_eq, wpo_nil, k_cons, k_step, mt_some, mtk_some, KO_eq, KP_eq, K_normal, K_ret, K_exit, KB_normal, KB_ret, KB_exit, KL_normal, KL_ret, KL_exit, k_ret, k_normal, stepE, isCall, calleeE, opE, wantE, odE, odS, odL, odSL, fget, fput, initE, keepF, List.map_cons, List.map_nil, binE, intOp, strOp, shOp, unE, eqpE, eqnE, neqB, ressE, resE, packL, packE, flat1, fcells, fillE, setL, cellsOf_bind, cellsO_own, cellsO_ro, lenE_sl, lenE_nils, lenE_sl0, bound, rep, minE, maxE, List.getElem?_cons_zero, List.getElem?_cons_succ, get_lt, set_lt, get_len, get_len_add, set_len, set_len_add, List.append_assoc, List.cons_append, List.nil_append, -getElem?_pos, ]
    exact hΨ _ _ ⟨g1, w, rfl, by simpa using ow⟩
  · have hl : n' = l.length := by simpa [lenE] using rl
    subst hl
    have hc : ∃ q, cellsOf h j = some (3, q) := by
      rcases r with ⟨_, e | ⟨_, _, _, e⟩⟩ | ⟨i', q, o', ob, vs, r1, r2, r3, r4, r5⟩
      · cases e
      · cases e
      · simp only [SV.sl.injEq] at r1
        obtain ⟨rfl, rfl, rfl, -⟩ := r1
        exact ⟨vs, by rw [cellsOf_bind, r2, Option.bind_some, r3]⟩
    obtain ⟨q, hq⟩ := hc
    rw [cellsOf_bind] at hq
    have hle : min l.length n ≤ l.length := Nat.min_le_left _ _
    have r' := Rd.take (p' := 0) encI_len r hle
    rw [ht] at r'
    obtain ⟨m, hm⟩ : ∃ m, m = min l.length n := ⟨_, rfl⟩
    rw [← hm] at hmn hle r'
    simp [wpk_skip, wpk_seq, k_cond, wpk_block, wpk_exit, wpk_ret, wpk_loop, k_ops, k_draw0, t_nil, t_cons, KT_eq, KD_eq, wpo_nil, k_cons, k_step, mt_some, mtk_some, KO_eq, KP_eq, K_normal, K_ret, K_exit, KB_normal, KB_ret, KB_exit, KL_normal, KL_ret, KL_exit, k_ret, k_normal, stepE, isCall, calleeE, opE, wantE, odE, odS, odL, odSL, fget, fput, initE, keepF, List.map_cons, List.map_nil, binE, intOp, strOp, shOp, unE, eqpE, eqnE, neqB, ressE, resE, packL, packE, flat1, fcells, fillE, setL, cellsOf_bind, cellsO_own, cellsO_ro, lenE_sl, lenE_nils, lenE_sl0, bound, rep, minE, maxE, List.getElem?_cons_zero, List.getElem?_cons_succ, get_lt, set_lt, get_len, get_len_add, set_len, set_len_add, List.append_assoc, List.cons_append, List.nil_append, -getElem?_pos, b12, s12_1, rl, hmn, hq, hle]
    refine WPc.go (copy_ok r' (by simp; omega)) ?_
    rintro _ h1 ⟨g1, w, rfl, ow⟩
    simp [wpk_skip, wpk_seq, k_cond, wpk_block, wpk_exit, wpk_ret, wpk_loop, k_ops, k_draw0, t_nil, t_cons, KT_eq, KD_eq, wpo_nil, k_cons, k_step, mt_some, mtk_some, KO_eq, KP_eq, K_normal, K_ret, K_exit, KB_normal, KB_ret, KB_exit, KL_normal, KL_ret, KL_exit, k_ret, k_normal, stepE, isCall, calleeE, opE, wantE, odE, odS, odL, odSL, fget, fput, initE, keepF, List.map_cons, List.map_nil, binE, intOp, strOp, shOp, unE, eqpE, eqnE, neqB, ressE, resE, packL, packE, flat1, fcells, fillE, setL, cellsOf_bind, cellsO_own, cellsO_ro, lenE_sl, lenE_nils, lenE_sl0, bound, rep, minE, maxE, List.getElem?_cons_zero, List.getElem?_cons_succ, get_lt, set_lt, get_len, get_len_add, set_len, set_len_add, List.append_assoc, List.cons_append, List.nil_append, -getElem?_pos, ]
    exact hΨ _ _ ⟨g1, w, rfl, ow⟩


theorem ref_ok {h : LH} {v : SV} {w : List Int} (r : Rd h 3 1 encI v w) (hl : w.length < 1000000) (n : Int) :
    WPc C 15 [.s (.int .i64 n), .s v] h fun u h' => Gr h h' ∧ ∃ a, u = .tup [.s a, .s (.bool (splitOk n w))] ∧ Ow h.length h' 3 encI a (splitF n w) :=
  ref_step r hl n fun hn h2 g => ref_step (r.gr g) hl (-n) fun hn' => by omega

theorem modF (n : Int) : 1 ≤ ([3, 10, 1000001, 100] : List Int).getD (n % 4).toNat 0 ∧ ([3, 10, 1000001, 100] : List Int).getD (n % 4).toNat 0 ≤ 1000001 := by
  have : n % 4 = 0 ∨ n % 4 = 1 ∨ n % 4 = 2 ∨ n % 4 = 3 := by omega
  rcases this with e | e | e | e <;> rw [e] <;> decide

set_option maxRecDepth 20000 in
set_option maxHeartbeats 8000000 in
theorem splitTells_ok {h0 : LH} {av : SV} {zs : List Int} (n0 : Int) (ha : IntA h0 3 av zs) (how : Int) (hz : ∀ z ∈ zs, (Lit.int .i64 z).wf = true) (hn0 : is64 n0) (hhow : is64 how) : ∃ h', callX C 5 [.s (.int .i64 n0), .s av, .s (.int .i64 how)] h0 = some (.s (.bool true), h') ∧ True := by
  suffices w : WPc C 5 [.s (.int .i64 n0), .s av, .s (.int .i64 how)] h0 fun u _ => u = .s (.bool true) by
    obtain ⟨v, h', e, rfl⟩ := w
    exact ⟨h', e, trivial⟩
  refine WPc.post fun Ψ hΨ => ?_
  refine WPc.intro (e := e5) rfl (by simp [e5]) ?_
  show WPk C b5 _ _ (KR [.tmp 6] _)
  simp [wpk_skip, wpk_seq, k_cond, wpk_block, wpk_exit, wpk_ret, wpk_loop, k_ops, k_draw0, t_nil, t_cons, KT_eq, KD_eq, wpo_nil, k_cons, k_step, mt_some, mtk_some, KO_eq, KP_eq, K_normal, K_ret, K_exit, KB_normal, KB_ret, KB_exit, KL_normal, KL_ret, KL_exit, k_ret, k_normal, stepE, isCall, calleeE, opE, wantE, odE, odS, odL, odSL, fget, fput, initE, keepF, List.map_cons, List.map_nil, binE, intOp, strOp, shOp, unE, eqpE, eqnE, neqB, ressE, resE, packL, packE, flat1, fcells, fillE, setL, cellsOf_bind, cellsO_own, cellsO_ro, lenE_sl, lenE_nils, lenE_sl0, bound, rep, minE, maxE, List.getElem?_cons_zero, List.getElem?_cons_succ, get_lt, set_lt, get_len, get_len_add, set_len, set_len_add, List.append_assoc, List.cons_append, List.nil_append, -getElem?_pos, b5, s5_1]
  have hform : av = .nils ∨ ∃ j n, av = .sl j 0 0 n := by
    rcases ha with ⟨e, _⟩ | ⟨j, e, _⟩
    · exact .inl e
    · exact .inr ⟨j, _, e⟩
  refine WPc.go (cut_ok hform ha.rd 18 (by omega)) ?_
  rintro _ h1 ⟨g1, wv, rfl, ow⟩
  have lz : (zs.take 18).length ≤ 18 := by simp; omega
  generalize zs.take 18 = W at *
  have hlen := ow.len
  simp [wpk_skip, wpk_seq, k_cond, wpk_block, wpk_exit, wpk_ret, wpk_loop, k_ops, k_draw0, t_nil, t_cons, KT_eq, KD_eq, wpo_nil, k_cons, k_step, mt_some, mtk_some, KO_eq, KP_eq, K_normal, K_ret, K_exit, KB_normal, KB_ret, KB_exit, KL_normal, KL_ret, KL_exit, k_ret, k_normal, stepE, isCall, calleeE, opE, wantE, odE, odS, odL, odSL, fget, fput, initE, keepF, List.map_cons, List.map_nil, binE, intOp, strOp, shOp, unE, eqpE, eqnE, neqB, ressE, resE, packL, packE, flat1, fcells, fillE, setL, cellsOf_bind, cellsO_own, cellsO_ro, lenE_sl, lenE_nils, lenE_sl0, bound, rep, minE, maxE, List.getElem?_cons_zero, List.getElem?_cons_succ, get_lt, set_lt, get_len, get_len_add, set_len, set_len_add, List.append_assoc, List.cons_append, List.nil_append, -getElem?_pos, s5_2, hlen]
  refine WPl.post (fun x fr' h' => x = .exit 0 ∧ fr' = [(0, some (.s (.int .i64 n0))), (7, some (.s wv))] ∧ ∃ S : List Int, S.length = W.length ∧ Ow h0.length h' 3 encI wv S) (fun Φ hΦ => ?_) ?_
  · refine WPl.inv2 (fun m fr h' => ∃ (k : Nat) (S : List Int), k ≤ W.length ∧ m = W.length - k ∧ S.length = W.length ∧ Ow h0.length h' 3 encI wv S ∧
      fr = [(0, some (.s (.int .i64 n0))), (2, some (.s (.int .i64 how))), (7, some (.s wv)), (17, some (.s (.int .i64 W.length))), (18, some (.s (.int .i64 k)))]) ?_ _ _ _ ⟨0, W, Nat.zero_le _, rfl, rfl, ow, by simp⟩
    rintro I hI m fr h' ⟨k, S, hk, rfl, lS, oS, rfl⟩
    refine ⟨by simp [keepF, fget], ?_⟩
    by_cases hlt : k < W.length
    · have kS : k < S.length := by omega
      obtain ⟨j, i1, rfl, i2, i3⟩ := oS.int_at kS
      have i5 := lt_of_some i2
      have t2 : k + 1 ≤ S.length := kS
      have g3 : S[k]? = some S[k] := List.getElem?_eq_getElem kS
      have w3 : IntKind.i64.wrap ((k : Int) + 1) = ((k + 1 : Nat) : Int) := wrap_small (by omega) (by omega)
      by_cases c : how.tmod 5 = 4
      · have c' : (how.tmod 5 != 4) = false := by simp [c]
        simp [wpk_skip, wpk_seq, k_cond, wpk_block, wpk_exit, wpk_ret, wpk_loop, k_ops, k_draw0, t_nil, t_cons, KT_eq, KD_eq, wpo_nil, k_cons, k_step, mt_some, mtk_some, KO_eq, KP_eq, K_normal, K_ret, K_exit, KB_normal, KB_ret, KB_exit, KL_normal, KL_ret, KL_exit, k_ret, k_normal, stepE, isCall, calleeE, opE, wantE, odE, odS, odL, odSL, fget, fput, initE, keepF, List.map_cons, List.map_nil, binE, intOp, strOp, shOp, unE, eqpE, eqnE, neqB, ressE, resE, packL, packE, flat1, fcells, fillE, setL, cellsOf_bind, cellsO_own, cellsO_ro, lenE_sl, lenE_nils, lenE_sl0, bound, rep, minE, maxE, List.getElem?_cons_zero, List.getElem?_cons_succ, get_lt, set_lt, get_len, get_len_add, set_len, set_len_add, List.append_assoc, List.cons_append, List.nil_append, -getElem?_pos, l5_0_2, l5_0_1, l5_0, hlt, c, c', w3]
        exact ⟨_, by omega, hI _ _ _ ⟨k + 1, S, hlt, rfl, lS, oS, rfl⟩⟩
      · have c' : (how.tmod 5 != 4) = true := by simp [c]
        have y1 := fun h => within_ok how 4 (by omega) h
        have y0 : 0 ≤ how % 4 ∧ how % 4 < 4 := by omega
        have y0' : how % 4 < ((3 + 1 : Nat) : Int) := by omega
        have ym := modF how
        obtain ⟨q, hq⟩ : ∃ q : Nat, how % 4 = q := ⟨(how % 4).toNat, by omega⟩
        rw [hq] at y1 y0 ym
        have q4 : q < 4 := by omega
        have q4' : q + 1 ≤ 4 := by omega
        have q4i : (q : Int) < 4 := by omega
        obtain ⟨M, hM⟩ : ∃ M, M = ([3, 10, 1000001, 100] : List Int).getD q 0 := ⟨_, rfl⟩
        rw [Int.toNat_natCast, ← hM] at ym
        have hg : ([SV.int .i64 3, SV.int .i64 10, SV.int .i64 1000001, SV.int .i64 100] : List SV)[q]? = some (.int .i64 M) := by
          rw [hM]
          have : q = 0 ∨ q = 1 ∨ q = 2 ∨ q = 3 := by omega
          rcases this with rfl | rfl | rfl | rfl <;> rfl
        have y2 := fun h => within_ok S[k] M (by omega) h
        simp [wpk_skip, wpk_seq, k_cond, wpk_block, wpk_exit, wpk_ret, wpk_loop, k_ops, k_draw0, t_nil, t_cons, KT_eq, KD_eq, wpo_nil, k_cons, k_step, mt_some, mtk_some, KO_eq, KP_eq, K_normal, K_ret, K_exit, KB_normal, KB_ret, KB_exit, KL_normal, KL_ret, KL_exit, k_ret, k_normal, stepE, isCall, calleeE, opE, wantE, odE, odS, odL, odSL, fget, fput, initE, keepF, List.map_cons, List.map_nil, binE, intOp, strOp, shOp, unE, eqpE, eqnE, neqB, ressE, resE, packL, packE, flat1, fcells, fillE, setL, cellsOf_bind, cellsO_own, cellsO_ro, lenE_sl, lenE_nils, lenE_sl0, bound, rep, minE, maxE, List.getElem?_cons_zero, List.getElem?_cons_succ, get_lt, set_lt, get_len, get_len_add, set_len, set_len_add, List.append_assoc, List.cons_append, List.nil_append, -getElem?_pos, l5_0_2, l5_0_1, l5_0, hlt, c, c', w3]
        refine k_draw ?_
        simp [wpk_skip, wpk_seq, k_cond, wpk_block, wpk_exit, wpk_ret, wpk_loop, k_ops, k_draw0, t_nil, t_cons, KT_eq, KD_eq, wpo_nil, k_cons, k_step, mt_some, mtk_some, KO_eq, KP_eq, K_normal, K_ret, K_exit, KB_normal, KB_ret, KB_exit, KL_normal, KL_ret, KL_exit, k_ret, k_normal, stepE, isCall, calleeE, opE, wantE, odE, odS, odL, odSL, fget, fput, initE, keepF, List.map_cons, List.map_nil, binE, intOp, strOp, shOp, unE, eqpE, eqnE, neqB, ressE, resE, packL, packE, flat1, fcells, fillE, setL, cellsOf_bind, cellsO_own, cellsO_ro, lenE_sl, lenE_nils, lenE_sl0, bound, rep, minE, maxE, List.getElem?_cons_zero, List.getElem?_cons_succ, get_lt, set_lt, get_len, get_len_add, set_len, set_len_add, List.append_assoc, List.cons_append, List.nil_append, slotsG, slotsE, odT, odsT, optT, partsT, okPairs, okPair, -getElem?_pos, kS, i2, i5, t2, g3, y1, q4, q4', q4i, hg, y2, w3]
        exact ⟨_, by omega, hI _ _ _ ⟨k + 1, _, hlt, rfl, by simpa using lS, (i3 (S[k] % M)).gr (Gr.self _ _), rfl⟩⟩
    · obtain rfl : k = W.length := by omega
      simp [wpk_skip, wpk_seq, k_cond, wpk_block, wpk_exit, wpk_ret, wpk_loop, k_ops, k_draw0, t_nil, t_cons, KT_eq, KD_eq, wpo_nil, k_cons, k_step, mt_some, mtk_some, KO_eq, KP_eq, K_normal, K_ret, K_exit, KB_normal, KB_ret, KB_exit, KL_normal, KL_ret, KL_exit, k_ret, k_normal, stepE, isCall, calleeE, opE, wantE, odE, odS, odL, odSL, fget, fput, initE, keepF, List.map_cons, List.map_nil, binE, intOp, strOp, shOp, unE, eqpE, eqnE, neqB, ressE, resE, packL, packE, flat1, fcells, fillE, setL, cellsOf_bind, cellsO_own, cellsO_ro, lenE_sl, lenE_nils, lenE_sl0, bound, rep, minE, maxE, List.getElem?_cons_zero, List.getElem?_cons_succ, get_lt, set_lt, get_len, get_len_add, set_len, set_len_add, List.append_assoc, List.cons_append, List.nil_append, -getElem?_pos, l5_0_2, l5_0_1, l5_0, hlt]
      exact hΦ _ _ _ ⟨rfl, rfl, S, lS, oS⟩
  · rintro x fr' h2 ⟨rfl, rfl, S, lS, oS⟩
    have y3 := fun h => amount_ok hn0 h
    simp [wpk_skip, wpk_seq, k_cond, wpk_block, wpk_exit, wpk_ret, wpk_loop, k_ops, k_draw0, t_nil, t_cons, KT_eq, KD_eq, wpo_nil, k_cons, k_step, mt_some, mtk_some, KO_eq, KP_eq, K_normal, K_ret, K_exit, KB_normal, KB_ret, KB_exit, KL_normal, KL_ret, KL_exit, k_ret, k_normal, stepE, isCall, calleeE, opE, wantE, odE, odS, odL, odSL, fget, fput, initE, keepF, List.map_cons, List.map_nil, binE, intOp, strOp, shOp, unE, eqpE, eqnE, neqB, ressE, resE, packL, packE, flat1, fcells, fillE, setL, cellsOf_bind, cellsO_own, cellsO_ro, lenE_sl, lenE_nils, lenE_sl0, bound, rep, minE, maxE, List.getElem?_cons_zero, List.getElem?_cons_succ, get_lt, set_lt, get_len, get_len_add, set_len, set_len_add, List.append_assoc, List.cons_append, List.nil_append, -getElem?_pos, s5_3, s5_4, y3]
    generalize amountF n0 = n
    refine WPc.go (copy_ok (oS.rd encI_len) (by omega)) ?_
    rintro _ h3 ⟨g3, lv, rfl, ol⟩
    simp [wpk_skip, wpk_seq, k_cond, wpk_block, wpk_exit, wpk_ret, wpk_loop, k_ops, k_draw0, t_nil, t_cons, KT_eq, KD_eq, wpo_nil, k_cons, k_step, mt_some, mtk_some, KO_eq, KP_eq, K_normal, K_ret, K_exit, KB_normal, KB_ret, KB_exit, KL_normal, KL_ret, KL_exit, k_ret, k_normal, stepE, isCall, calleeE, opE, wantE, odE, odS, odL, odSL, fget, fput, initE, keepF, List.map_cons, List.map_nil, binE, intOp, strOp, shOp, unE, eqpE, eqnE, neqB, ressE, resE, packL, packE, flat1, fcells, fillE, setL, cellsOf_bind, cellsO_own, cellsO_ro, lenE_sl, lenE_nils, lenE_sl0, bound, rep, minE, maxE, List.getElem?_cons_zero, List.getElem?_cons_succ, get_lt, set_lt, get_len, get_len_add, set_len, set_len_add, List.append_assoc, List.cons_append, List.nil_append, -getElem?_pos, s5_5]
    refine WPc.go (split_ok ((oS.gr g3).rd encI_len) (by omega) n) ?_
    rintro _ h4 ⟨g4, a, rfl, oa⟩
    simp [wpk_skip, wpk_seq, k_cond, wpk_block, wpk_exit, wpk_ret, wpk_loop, k_ops, k_draw0, t_nil, t_cons, KT_eq, KD_eq, wpo_nil, k_cons, k_step, mt_some, mtk_some, KO_eq, KP_eq, K_normal, K_ret, K_exit, KB_normal, KB_ret, KB_exit, KL_normal, KL_ret, KL_exit, k_ret, k_normal, stepE, isCall, calleeE, opE, wantE, odE, odS, odL, odSL, fget, fput, initE, keepF, List.map_cons, List.map_nil, binE, intOp, strOp, shOp, unE, eqpE, eqnE, neqB, ressE, resE, packL, packE, flat1, fcells, fillE, setL, cellsOf_bind, cellsO_own, cellsO_ro, lenE_sl, lenE_nils, lenE_sl0, bound, rep, minE, maxE, List.getElem?_cons_zero, List.getElem?_cons_succ, get_lt, set_lt, get_len, get_len_add, set_len, set_len_add, List.append_assoc, List.cons_append, List.nil_append, -getElem?_pos, s5_6]
    refine WPc.go (ref_ok ((oS.gr (g3.trans g4)).rd encI_len) (by omega) n) ?_
    rintro _ h5 ⟨g5, b, rfl, ob⟩
    have lF : (splitF n S).length ≤ S.length := by
      unfold splitF
      split
      · rw [P_len]; exact Nat.le_refl _
      · simp
    have s1 := same_ok ((oa.gr g5).rd encI_len) (ob.rd encI_len) (by omega)
    have s2 := same_ok ((oS.gr ((g3.trans g4).trans g5)).rd encI_len) ((ol.gr (g4.trans g5)).rd encI_len) (by omega)
    simp [wpk_skip, wpk_seq, k_cond, wpk_block, wpk_exit, wpk_ret, wpk_loop, k_ops, k_draw0, t_nil, t_cons, KT_eq, KD_eq, wpo_nil, k_cons, k_step, mt_some, mtk_some, KO_eq, KP_eq, K_normal, K_ret, K_exit, KB_normal, KB_ret, KB_exit, KL_normal, KL_ret, KL_exit, k_ret, k_normal, stepE, isCall, calleeE, opE, wantE, odE, odS, odL, odSL, fget, fput, initE, keepF, List.map_cons, List.map_nil, binE, intOp, strOp, shOp, unE, eqpE, eqnE, neqB, ressE, resE, packL, packE, flat1, fcells, fillE, setL, cellsOf_bind, cellsO_own, cellsO_ro, lenE_sl, lenE_nils, lenE_sl0, bound, rep, minE, maxE, List.getElem?_cons_zero, List.getElem?_cons_succ, get_lt, set_lt, get_len, get_len_add, set_len, set_len_add, List.append_assoc, List.cons_append, List.nil_append, -getElem?_pos, s5_7, s1, s2]
    refine WPc.go (wakes_ok h5) ?_
    rintro _ h6 ⟨g6, rfl⟩
    simp [wpk_skip, wpk_seq, k_cond, wpk_block, wpk_exit, wpk_ret, wpk_loop, k_ops, k_draw0, t_nil, t_cons, KT_eq, KD_eq, wpo_nil, k_cons, k_step, mt_some, mtk_some, KO_eq, KP_eq, K_normal, K_ret, K_exit, KB_normal, KB_ret, KB_exit, KL_normal, KL_ret, KL_exit, k_ret, k_normal, stepE, isCall, calleeE, opE, wantE, odE, odS, odL, odSL, fget, fput, initE, keepF, List.map_cons, List.map_nil, binE, intOp, strOp, shOp, unE, eqpE, eqnE, neqB, ressE, resE, packL, packE, flat1, fcells, fillE, setL, cellsOf_bind, cellsO_own, cellsO_ro, lenE_sl, lenE_nils, lenE_sl0, bound, rep, minE, maxE, List.getElem?_cons_zero, List.getElem?_cons_succ, get_lt, set_lt, get_len, get_len_add, set_len, set_len_add, List.append_assoc, List.cons_append, List.nil_append, -getElem?_pos]
    exact hΨ _ _ rfl
end Go.Proofs.Ytejoijjmlglhfaa.Ev.CS
