/- StatusEnd on the small machine. -/
import Derived.Test.YtaafbpniakldpaaStatLem
set_option linter.unusedSimpArgs false
set_option linter.unusedVariables false
namespace Go.Proofs.Ytaafbpniakldpaa.Ev.C8
open Go

theorem end_loop {n : Int} (hn : 0 ≤ n ∧ n ≤ 4) {i : Nat} : ∀ (m : Nat) (h : LH) (j : Nat) (t : List Bool) (c : Int), St h i j (399 - n) t → t = List.replicate t.length false → (t.length : Int) = c + 1 → c + m = n + 1 →
    ∃ h' j' t', loopX (codeL (callX C) l3_0) [0, 3, 5] [(0, some (.s (.int .i64 n))), (3, some (.s (.ptr i 0))), (5, some (.s (.int .i64 c)))] h = some (.exit 0, [(0, some (.s (.int .i64 n))), (3, some (.s (.ptr i 0)))], h') ∧
      St h' i j' (399 - n) t' ∧ t' = List.replicate t'.length false ∧ (t'.length : Int) = n + 2 := by
  intro m
  induction m with
  | zero =>
    intro h j t c s hr ht hc
    refine ⟨h, j, t, ?_, s, hr, by omega⟩
    refine loopX_round (by simp [keepF, fget]) ?_
    have hle : ¬ (c ≤ n) := by omega
    simp [l3_0, bodyX, codeL, opsE, stepE, isCall, calleeE, opE, wantE, odE, odS, odL, odSL, fget, fput, initE, keepF, binE, intOp, strOp, unE, eqpE, eqnE, neqB, ressE, resE, packL, packE, flat1, fcells, fillE, setL, cellsOf, lenE_sl, lenE_nils, lenE_sl0, bound, drawE_nil, traceE, slotsG, slotsE, odT, odsT, optT, partsT, rep, List.getElem?_cons_zero, List.getElem?_cons_succ, get_len, get_len_add, hle]
  | succ m ih =>
    intro h j t c s hr ht hc
    have hl := s.len
    have hle : c ≤ n := by omega
    obtain ⟨h1, q1, q2, q3, q4⟩ := close_yes s (by omega)
    have w1 : IntKind.i64.wrap (c + 1) = c + 1 := wrap_small (by omega) (by omega)
    have w2 : IntKind.i64.wrap (399 - n) = 399 - n := wrap_small (by omega) (by omega)
    have w3 : IntKind.i64.wrap (399 - n + c) = 399 - n + c := wrap_small (by omega) (by omega)
    have w4 : 399 - n + (t.length : Int) - 1 = 399 - n + c := by omega
    obtain ⟨h', j', t', b1, b2, b3, b4⟩ := ih h1 _ (t ++ [false]) (c + 1) q2 (by rw [List.length_append, List.length_singleton, List.replicate_succ', ← hr]) (by simp; omega) (by omega)
    refine ⟨h', j', t', ?_, b2, b3, b4⟩
    refine loopX_round (by simp [keepF, fget]) ?_
    generalize loopX (codeL (callX C) l3_0) [0, 3, 5] = L at b1 ⊢
    have ho := open_yes s (by omega)
    rw [w4] at ho
    simp [l3_0, bodyX, codeL, opsE, stepE, isCall, calleeE, opE, wantE, odE, odS, odL, odSL, fget, fput, initE, keepF, binE, intOp, strOp, unE, eqpE, eqnE, neqB, ressE, resE, packL, packE, flat1, fcells, fillE, setL, cellsOf, lenE_sl, lenE_nils, lenE_sl0, bound, drawE_nil, traceE, slotsG, slotsE, odT, odsT, optT, partsT, rep, List.getElem?_cons_zero, List.getElem?_cons_succ, get_len, get_len_add, hle, ho, q1, w1, w2, w3, b1]

set_option maxHeartbeats 2000000 in
theorem statusEnd_ok (n0 : Int) : ∃ h', callX C 3 [.s (.int .i64 n0)] [] = some (.s (.bool true), h') ∧ True := by
  have hn : 0 ≤ n0 % 5 ∧ n0 % 5 ≤ 4 := by omega
  have hw := within_ok n0 5 (by omega) []
  generalize n0 % 5 = n at hn hw
  have w1 : IntKind.i64.wrap (399 - n) = 399 - n := wrap_small (by omega) (by omega)
  have w2 : IntKind.i64.wrap (n + 1) = n + 1 := wrap_small (by omega) (by omega)
  have hnew := new_ok (399 - n) (by omega) []
  have s : St ([] ++ [LO.own 4 [.bool false], LO.own 67 [.int .i64 (399 - n), .sl 0 0 0 1]]) 1 0 (399 - n) [false] :=
    ⟨by omega, by simp; omega, ⟨0, rfl⟩, ⟨[.bool false], rfl, by simp⟩⟩
  obtain ⟨h1, j1, t1, a1, a2, a3, a4⟩ := end_loop hn (n + 1).toNat _ _ [false] 0 s rfl rfl (by omega)
  have o1 := open_no a2 (by omega)
  have o2 := touch_no a2 (by omega)
  have o3 := close_no a2 (by omega)
  obtain ⟨v, h2, c1, w, rfl, c2, c3, c4, c5⟩ := closed_ok a2
  have c6 := c2.len
  have hlen1 : ((List.range (t1.length - 1)).map fun (x : Nat) => 399 - n + (x : Int)).length = t1.length - 1 := by simp
  rw [hlen1] at c6
  have hlen2 : ((t1.length - 1 : Nat) : Int) = n + 1 := by omega
  have hfalse : ∀ k, k < t1.length → t1[k]? = some false := fun k hk => by rw [a3, List.getElem?_replicate, if_pos hk]
  obtain ⟨h3, d1, d2, d3, d4⟩ := reopen_yes c3 (by omega) (hfalse _ (by omega))
  have hl3 : (t1.take (t1.length - 1)).length = t1.length - 1 := by simp
  have o4 := open_yes d2 (by rw [hl3]; omega)
  have w5 : 399 - n + ((t1.take (t1.length - 1)).length : Int) - 1 = 399 := by rw [hl3]; omega
  rw [w5] at o4
  have n1 := new_bad (-1) (by omega)
  have n2 := new_bad 400 (by omega)
  obtain ⟨h4, u1, u2, u3, u4⟩ := touch_yes d2 (by rw [hl3]; omega)
  have hl4 : ((t1.take (t1.length - 1)).set ((t1.take (t1.length - 1)).length - 1) true).length = t1.length - 1 := by simp
  obtain ⟨h5, f1, f2, f3, f4⟩ := close_yes u2 (by rw [hl4]; omega)
  obtain ⟨h6, g1, g2, g3⟩ := wakes_ok h5
  refine callX_ex (e := C8.e3) rfl (by simp [C8.e3]) ?_
  refine ⟨h6, ?_, trivial⟩
  simp at hnew a1
  refine body_of (fr := [(2, some (.s (.bool true)))]) ?_ (by simp [C8.e3, bodyX, codeL, opsE, stepE, isCall, calleeE, opE, wantE, odE, odS, odL, odSL, fget, fput, initE, keepF, binE, intOp, strOp, unE, eqpE, eqnE, neqB, ressE, resE, packL, packE, flat1, fcells, fillE, setL, cellsOf, lenE_sl, lenE_nils, lenE_sl0, bound, drawE_nil, traceE, slotsG, slotsE, odT, odsT, optT, partsT, rep, List.getElem?_cons_zero, List.getElem?_cons_succ, get_len, get_len_add])
  show codeL (callX C) b3 _ _ = _
  unfold b3
  refine seq_step (by simp [bodyX, codeL, opsE, stepE, isCall, calleeE, opE, wantE, odE, odS, odL, odSL, fget, fput, initE, keepF, binE, intOp, strOp, unE, eqpE, eqnE, neqB, ressE, resE, packL, packE, flat1, fcells, fillE, setL, cellsOf, lenE_sl, lenE_nils, lenE_sl0, bound, drawE_nil, traceE, slotsG, slotsE, odT, odsT, optT, partsT, rep, List.getElem?_cons_zero, List.getElem?_cons_succ, get_len, get_len_add]; first | exact ⟨rfl, rfl⟩ | rfl) ?_
  refine seq_step (by simp [bodyX, codeL, opsE, stepE, isCall, calleeE, opE, wantE, odE, odS, odL, odSL, fget, fput, initE, keepF, binE, intOp, strOp, unE, eqpE, eqnE, neqB, ressE, resE, packL, packE, flat1, fcells, fillE, setL, cellsOf, lenE_sl, lenE_nils, lenE_sl0, bound, drawE_nil, traceE, slotsG, slotsE, odT, odsT, optT, partsT, rep, List.getElem?_cons_zero, List.getElem?_cons_succ, get_len, get_len_add, hw]; first | exact ⟨rfl, rfl⟩ | rfl) ?_
  refine seq_step (by simp [bodyX, codeL, opsE, stepE, isCall, calleeE, opE, wantE, odE, odS, odL, odSL, fget, fput, initE, keepF, binE, intOp, strOp, unE, eqpE, eqnE, neqB, ressE, resE, packL, packE, flat1, fcells, fillE, setL, cellsOf, lenE_sl, lenE_nils, lenE_sl0, bound, drawE_nil, traceE, slotsG, slotsE, odT, odsT, optT, partsT, rep, List.getElem?_cons_zero, List.getElem?_cons_succ, get_len, get_len_add, w1, hnew]; first | exact ⟨rfl, rfl⟩ | rfl) ?_
  refine seq_step (by simp [bodyX, codeL, opsE, stepE, isCall, calleeE, opE, wantE, odE, odS, odL, odSL, fget, fput, initE, keepF, binE, intOp, strOp, unE, eqpE, eqnE, neqB, ressE, resE, packL, packE, flat1, fcells, fillE, setL, cellsOf, lenE_sl, lenE_nils, lenE_sl0, bound, drawE_nil, traceE, slotsG, slotsE, odT, odsT, optT, partsT, rep, List.getElem?_cons_zero, List.getElem?_cons_succ, get_len, get_len_add]; first | exact ⟨rfl, rfl⟩ | rfl) ?_
  refine seq_step (by simp [bodyX, codeL, opsE, stepE, isCall, calleeE, opE, wantE, odE, odS, odL, odSL, fget, fput, initE, keepF, binE, intOp, strOp, unE, eqpE, eqnE, neqB, ressE, resE, packL, packE, flat1, fcells, fillE, setL, cellsOf, lenE_sl, lenE_nils, lenE_sl0, bound, drawE_nil, traceE, slotsG, slotsE, odT, odsT, optT, partsT, rep, List.getElem?_cons_zero, List.getElem?_cons_succ, get_len, get_len_add, a1]; first | exact ⟨rfl, rfl⟩ | rfl) ?_
  refine seq_step (by simp [bodyX, codeL, opsE, stepE, isCall, calleeE, opE, wantE, odE, odS, odL, odSL, fget, fput, initE, keepF, binE, intOp, strOp, unE, eqpE, eqnE, neqB, ressE, resE, packL, packE, flat1, fcells, fillE, setL, cellsOf, lenE_sl, lenE_nils, lenE_sl0, bound, drawE_nil, traceE, slotsG, slotsE, odT, odsT, optT, partsT, rep, List.getElem?_cons_zero, List.getElem?_cons_succ, get_len, get_len_add, o1]; first | exact ⟨rfl, rfl⟩ | rfl) ?_
  refine seq_step (by simp [bodyX, codeL, opsE, stepE, isCall, calleeE, opE, wantE, odE, odS, odL, odSL, fget, fput, initE, keepF, binE, intOp, strOp, unE, eqpE, eqnE, neqB, ressE, resE, packL, packE, flat1, fcells, fillE, setL, cellsOf, lenE_sl, lenE_nils, lenE_sl0, bound, drawE_nil, traceE, slotsG, slotsE, odT, odsT, optT, partsT, rep, List.getElem?_cons_zero, List.getElem?_cons_succ, get_len, get_len_add, o2, o3, c1, c6, w2, hlen2]; first | exact ⟨rfl, rfl⟩ | rfl) ?_
  refine seq_step (by simp [bodyX, codeL, opsE, stepE, isCall, calleeE, opE, wantE, odE, odS, odL, odSL, fget, fput, initE, keepF, binE, intOp, strOp, unE, eqpE, eqnE, neqB, ressE, resE, packL, packE, flat1, fcells, fillE, setL, cellsOf, lenE_sl, lenE_nils, lenE_sl0, bound, drawE_nil, traceE, slotsG, slotsE, odT, odsT, optT, partsT, rep, List.getElem?_cons_zero, List.getElem?_cons_succ, get_len, get_len_add, d1]; first | exact ⟨rfl, rfl⟩ | rfl) ?_
  refine seq_step (by simp [bodyX, codeL, opsE, stepE, isCall, calleeE, opE, wantE, odE, odS, odL, odSL, fget, fput, initE, keepF, binE, intOp, strOp, unE, eqpE, eqnE, neqB, ressE, resE, packL, packE, flat1, fcells, fillE, setL, cellsOf, lenE_sl, lenE_nils, lenE_sl0, bound, drawE_nil, traceE, slotsG, slotsE, odT, odsT, optT, partsT, rep, List.getElem?_cons_zero, List.getElem?_cons_succ, get_len, get_len_add, o4]; first | exact ⟨rfl, rfl⟩ | rfl) ?_
  refine seq_step (by simp [bodyX, codeL, opsE, stepE, isCall, calleeE, opE, wantE, odE, odS, odL, odSL, fget, fput, initE, keepF, binE, intOp, strOp, unE, eqpE, eqnE, neqB, ressE, resE, packL, packE, flat1, fcells, fillE, setL, cellsOf, lenE_sl, lenE_nils, lenE_sl0, bound, drawE_nil, traceE, slotsG, slotsE, odT, odsT, optT, partsT, rep, List.getElem?_cons_zero, List.getElem?_cons_succ, get_len, get_len_add, n1]; first | exact ⟨rfl, rfl⟩ | rfl) ?_
  refine seq_step (by simp [bodyX, codeL, opsE, stepE, isCall, calleeE, opE, wantE, odE, odS, odL, odSL, fget, fput, initE, keepF, binE, intOp, strOp, unE, eqpE, eqnE, neqB, ressE, resE, packL, packE, flat1, fcells, fillE, setL, cellsOf, lenE_sl, lenE_nils, lenE_sl0, bound, drawE_nil, traceE, slotsG, slotsE, odT, odsT, optT, partsT, rep, List.getElem?_cons_zero, List.getElem?_cons_succ, get_len, get_len_add, n2]; first | exact ⟨rfl, rfl⟩ | rfl) ?_
  simp [bodyX, codeL, opsE, stepE, isCall, calleeE, opE, wantE, odE, odS, odL, odSL, fget, fput, initE, keepF, binE, intOp, strOp, unE, eqpE, eqnE, neqB, ressE, resE, packL, packE, flat1, fcells, fillE, setL, cellsOf, lenE_sl, lenE_nils, lenE_sl0, bound, drawE_nil, traceE, slotsG, slotsE, odT, odsT, optT, partsT, rep, List.getElem?_cons_zero, List.getElem?_cons_succ, get_len, get_len_add, u1, f1, g1]

end Go.Proofs.Ytaafbpniakldpaa.Ev.C8
