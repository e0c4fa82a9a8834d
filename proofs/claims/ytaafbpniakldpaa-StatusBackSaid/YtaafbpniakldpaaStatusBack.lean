/- StatusBack on the small machine. -/
import Derived.Test.YtaafbpniakldpaaStatLem
set_option linter.unusedSimpArgs false
set_option linter.unusedVariables false
namespace Go.Proofs.Ytaafbpniakldpaa.Ev.C8
open Go

def bits (n τ k : Nat) : List Bool := (List.range k).map fun q => decide (q = τ ∧ q < n)
theorem bits_len (n τ k : Nat) : (bits n τ k).length = k := by simp [bits]
theorem bits_succ (n τ k : Nat) : bits n τ (k + 1) = bits n τ k ++ [decide (k = τ ∧ k < n)] := by simp [bits, List.range_succ]
theorem bits_take (n τ k : Nat) : (bits n τ (k + 1)).take k = bits n τ k := by
  rw [bits_succ, List.take_append_of_le_length (by rw [bits_len]; exact Nat.le_refl _), List.take_of_length_le (by rw [bits_len]; exact Nat.le_refl _)]
theorem bits_last (n τ k : Nat) : (bits n τ (k + 1))[k]? = some (decide (k = τ ∧ k < n)) := by simp [bits]

theorem back_loop1 {N τ : Nat} (hN : 1 ≤ N ∧ N ≤ 6) {first : Int} (hf : 0 ≤ first ∧ first ≤ 99) {i : Nat} : ∀ (m : Nat) (h : LH) (j c : Nat), St h i j first (bits N τ c ++ [false]) → c + m = N →
    ∃ h' j', loopX (codeL (callX C) l5_0) [0, 1, 2, 7, 9] [(0, some (.s (.int .i64 first))), (1, some (.s (.int .i64 N))), (2, some (.s (.int .i64 τ))), (7, some (.s (.ptr i 0))), (9, some (.s (.int .i64 c)))] h =
        some (.exit 0, [(0, some (.s (.int .i64 first))), (1, some (.s (.int .i64 N))), (2, some (.s (.int .i64 τ))), (7, some (.s (.ptr i 0)))], h') ∧
      St h' i j' first (bits N τ N ++ [false]) := by
  intro m
  induction m with
  | zero =>
    intro h j c s hc
    obtain rfl : c = N := by omega
    refine ⟨h, j, ?_, s⟩
    refine loopX_round (by simp [keepF, fget]) ?_
    simp [l5_0, bodyX, codeL, opsE, stepE, isCall, calleeE, opE, wantE, odE, odS, odL, odSL, fget, fput, initE, keepF, binE, intOp, strOp, unE, eqpE, eqnE, neqB, ressE, resE, packL, packE, flat1, fcells, fillE, setL, cellsOf, lenE_sl, lenE_nils, lenE_sl0, bound, drawE_nil, traceE, slotsG, slotsE, odT, odsT, optT, partsT, rep, List.getElem?_cons_zero, List.getElem?_cons_succ, get_len, get_len_add]
  | succ m ih =>
    intro h j c s hc
    have hlt : (c : Int) < N := by omega
    have w1 : IntKind.i64.wrap ((c : Int) + 1) = (c : Int) + 1 := wrap_small (by omega) (by omega)
    have hlen : (bits N τ c ++ [false]).length = c + 1 := by simp [bits_len]
    by_cases hτ : (c : Int) = τ
    · obtain ⟨h1, q1, q2, q3, q4⟩ := touch_yes s (by rw [hlen]; omega)
      have e1 : (bits N τ c ++ [false]).set ((bits N τ c ++ [false]).length - 1) true = bits N τ (c + 1) := by
        rw [hlen, bits_succ]
        have : decide (c = τ ∧ c < N) = true := decide_eq_true (by omega)
        rw [this]
        simp [List.set_append, bits_len]
      rw [e1] at q2
      obtain ⟨h2, r1, r2, r3, r4⟩ := close_yes q2 (by rw [bits_len]; omega)
      obtain ⟨h', j', b1, b2⟩ := ih h2 _ (c + 1) r2 (by omega)
      refine ⟨h', j', ?_, b2⟩
      refine loopX_round (by simp [keepF, fget]) ?_
      simp only [Int.natCast_add, Int.natCast_one] at b1
      generalize loopX (codeL (callX C) l5_0) [0, 1, 2, 7, 9] = L at b1 ⊢
      have hb : ((c : Int) == (τ : Int)) = true := by simpa using hτ
      simp [l5_0, bodyX, codeL, opsE, stepE, isCall, calleeE, opE, wantE, odE, odS, odL, odSL, fget, fput, initE, keepF, binE, intOp, strOp, unE, eqpE, eqnE, neqB, ressE, resE, packL, packE, flat1, fcells, fillE, setL, cellsOf, lenE_sl, lenE_nils, lenE_sl0, bound, drawE_nil, traceE, slotsG, slotsE, odT, odsT, optT, partsT, rep, List.getElem?_cons_zero, List.getElem?_cons_succ, get_len, get_len_add, hlt, hb, q1, r1, w1, b1]
    · obtain ⟨h2, r1, r2, r3, r4⟩ := close_yes s (by rw [hlen]; omega)
      have e1 : bits N τ c ++ [false] = bits N τ (c + 1) := by
        rw [bits_succ]
        have : decide (c = τ ∧ c < N) = false := decide_eq_false (by omega)
        rw [this]
      rw [e1] at r2
      obtain ⟨h', j', b1, b2⟩ := ih h2 _ (c + 1) r2 (by omega)
      refine ⟨h', j', ?_, b2⟩
      refine loopX_round (by simp [keepF, fget]) ?_
      simp only [Int.natCast_add, Int.natCast_one] at b1
      generalize loopX (codeL (callX C) l5_0) [0, 1, 2, 7, 9] = L at b1 ⊢
      have hb : ((c : Int) == (τ : Int)) = false := by simpa using hτ
      simp [l5_0, bodyX, codeL, opsE, stepE, isCall, calleeE, opE, wantE, odE, odS, odL, odSL, fget, fput, initE, keepF, binE, intOp, strOp, unE, eqpE, eqnE, neqB, ressE, resE, packL, packE, flat1, fcells, fillE, setL, cellsOf, lenE_sl, lenE_nils, lenE_sl0, bound, drawE_nil, traceE, slotsG, slotsE, odT, odsT, optT, partsT, rep, List.getElem?_cons_zero, List.getElem?_cons_succ, get_len, get_len_add, hlt, hb, r1, w1, b1]

theorem back_loop2 {N τ : Nat} (hN : 1 ≤ N ∧ N ≤ 6) {first : Int} (hf : 0 ≤ first ∧ first ≤ 99) {i : Nat} : ∀ (m : Nat) (h : LH) (j : Nat), St h i j first (bits N τ (m + 1)) → m ≤ N →
    ∃ ex fr h', loopX (codeL (callX C) l5_1) [0, 1, 2, 7, 10] [(0, some (.s (.int .i64 first))), (1, some (.s (.int .i64 N))), (2, some (.s (.int .i64 τ))), (7, some (.s (.ptr i 0))), (10, some (.s (.int .i64 ((m : Int) - 1))))] h = some (ex, fr, h') ∧
      ((ex = .ret ∧ fr = [(6, some (.s (.bool true)))]) ∨ (ex = .exit 2 ∧ fr = [(7, some (.s (.ptr i 0)))] ∧ ∃ j', St h' i j' first (bits N τ 1))) := by
  intro m
  induction m with
  | zero =>
    intro h j s hm
    refine ⟨.exit 2, _, h, ?_, .inr ⟨rfl, rfl, j, s⟩⟩
    refine loopX_round (by simp [keepF, fget]) ?_
    simp [l5_1, bodyX, codeL, opsE, stepE, isCall, calleeE, opE, wantE, odE, odS, odL, odSL, fget, fput, initE, keepF, binE, intOp, strOp, unE, eqpE, eqnE, neqB, ressE, resE, packL, packE, flat1, fcells, fillE, setL, cellsOf, lenE_sl, lenE_nils, lenE_sl0, bound, drawE_nil, traceE, slotsG, slotsE, odT, odsT, optT, partsT, rep, List.getElem?_cons_zero, List.getElem?_cons_succ, get_len, get_len_add]
  | succ m ih =>
    intro h j s hm
    have hlen : (bits N τ (m + 1 + 1)).length = m + 2 := bits_len _ _ _
    have k1 : ((m + 1 : Nat) : Int) - 1 = m := by omega
    have w1 : IntKind.i64.wrap ((m : Int) + 1) = (m : Int) + 1 := wrap_small (by omega) (by omega)
    have w2 : IntKind.i64.wrap (first + (m : Int)) = first + (m : Int) := wrap_small (by omega) (by omega)
    have w3 : IntKind.i64.wrap (first + (m : Int) + 1) = first + (m : Int) + 1 := wrap_small (by omega) (by omega)
    have w4 : IntKind.i64.wrap ((m : Int) - 1) = (m : Int) - 1 := wrap_small (by omega) (by omega)
    have hlast : (bits N τ (m + 1 + 1))[(bits N τ (m + 1 + 1)).length - 1]? = some (decide (m + 1 = τ ∧ m + 1 < N)) := by rw [hlen]; exact bits_last _ _ _
    rw [k1]
    have hge : (0 : Int) ≤ m := by omega
    by_cases hτ : m + 1 = τ ∧ m + 1 < N
    · -- it holds the period ahead of it
      have hr := reopen_held s (by omega) (by rw [hlast, decide_eq_true hτ])
      have ho := open_yes s (by rw [hlen]; omega)
      have e1 : first + ((bits N τ (m + 1 + 1)).length : Int) - 1 = first + m + 1 := by rw [hlen]; omega
      rw [e1] at ho
      obtain ⟨v, h2, c1, w, rfl, c2, c3, c4, c5⟩ := closed_ok s
      have c6 := c2.len
      rw [List.length_map, List.length_range, hlen] at c6
      obtain ⟨h6, g1, g2, g3⟩ := wakes_ok h2
      have t1 : (m : Int) + 1 = τ := by omega
      have t2 : ¬ ((τ : Int) = N) := by omega
      have t3 : ((m + 2 - 1 : Nat) : Int) = (m : Int) + 1 := by omega
      refine ⟨.ret, _, h6, ?_, .inl ⟨rfl, rfl⟩⟩
      refine loopX_round (by simp [keepF, fget]) ?_
      generalize loopX (codeL (callX C) l5_1) [0, 1, 2, 7, 10] = L
      have hb1 : ((m : Int) + 1 == (τ : Int)) = true := by simpa using t1
      have hb2 : ((τ : Int) == (N : Int)) = false := by simpa using t2
      have hb3 : (((m + 2 - 1 : Nat) : Int) == (m : Int) + 1) = true := by rw [t3]; simp
      simp [l5_1, bodyX, codeL, opsE, stepE, isCall, calleeE, opE, wantE, odE, odS, odL, odSL, fget, fput, initE, keepF, binE, intOp, strOp, unE, eqpE, eqnE, neqB, ressE, resE, packL, packE, flat1, fcells, fillE, setL, cellsOf, lenE_sl, lenE_nils, lenE_sl0, bound, drawE_nil, traceE, slotsG, slotsE, odT, odsT, optT, partsT, rep, List.getElem?_cons_zero, List.getElem?_cons_succ, get_len, get_len_add, hge, w1, hb1, hb2, hr, ho, w2, w3, c1, c6, hb3, g1]
    · have hr' : decide (m + 1 = τ ∧ m + 1 < N) = false := decide_eq_false hτ
      rw [hr'] at hlast
      obtain ⟨h1, r1, r2, r3, r4⟩ := reopen_yes s (by omega) hlast
      rw [hlen, show m + 2 - 1 = m + 1 by omega, bits_take] at r2
      have ho := open_yes r2 (by rw [bits_len]; omega)
      have e1 : first + ((bits N τ (m + 1)).length : Int) - 1 = first + m := by rw [bits_len]; omega
      rw [e1] at ho
      obtain ⟨v, h2, c1, w, rfl, c2, c3, c4, c5⟩ := closed_ok r2
      have c6 := c2.len
      rw [List.length_map, List.length_range, bits_len] at c6
      obtain ⟨ex, fr, h', b1, b2⟩ := ih h2 j c3 (by omega)
      refine ⟨ex, fr, h', ?_, b2⟩
      refine loopX_round (by simp [keepF, fget]) ?_
      generalize loopX (codeL (callX C) l5_1) [0, 1, 2, 7, 10] = L at b1 ⊢
      have t3 : ((m + 1 - 1 : Nat) : Int) = (m : Int) := by omega
      by_cases hτ2 : (m : Int) + 1 = τ
      · have t2 : (τ : Int) = N := by omega
        have hb1 : ((m : Int) + 1 == (τ : Int)) = true := by simpa using hτ2
        have hb2 : ((τ : Int) == (N : Int)) = true := by simpa using t2
        simp [l5_1, bodyX, codeL, opsE, stepE, isCall, calleeE, opE, wantE, odE, odS, odL, odSL, fget, fput, initE, keepF, binE, intOp, strOp, unE, eqpE, eqnE, neqB, ressE, resE, packL, packE, flat1, fcells, fillE, setL, cellsOf, lenE_sl, lenE_nils, lenE_sl0, bound, drawE_nil, traceE, slotsG, slotsE, odT, odsT, optT, partsT, rep, List.getElem?_cons_zero, List.getElem?_cons_succ, get_len, get_len_add, hge, w1, hb1, hb2, r1, ho, w2, c1, c6, t3, w4, b1]
      · have hb1 : ((m : Int) + 1 == (τ : Int)) = false := by simpa using hτ2
        simp [l5_1, bodyX, codeL, opsE, stepE, isCall, calleeE, opE, wantE, odE, odS, odL, odSL, fget, fput, initE, keepF, binE, intOp, strOp, unE, eqpE, eqnE, neqB, ressE, resE, packL, packE, flat1, fcells, fillE, setL, cellsOf, lenE_sl, lenE_nils, lenE_sl0, bound, drawE_nil, traceE, slotsG, slotsE, odT, odsT, optT, partsT, rep, List.getElem?_cons_zero, List.getElem?_cons_succ, get_len, get_len_add, hge, w1, hb1, r1, ho, w2, c1, c6, t3, w4, b1]

theorem statusBack_ok (f0 n0 τ0 : Int) : ∃ h', callX C 5 [.s (.int .i64 f0), .s (.int .i64 n0), .s (.int .i64 τ0)] [] = some (.s (.bool true), h') ∧ True := by
  have hf : 0 ≤ f0 % 100 ∧ f0 % 100 ≤ 99 := by omega
  have hw1 := within_ok f0 100 (by omega) []
  generalize f0 % 100 = first at hf hw1
  have hw2 := within_ok n0 6 (by omega) []
  obtain ⟨N, hN⟩ : ∃ N : Nat, 1 + n0 % 6 = N := ⟨(1 + n0 % 6).toNat, by omega⟩
  have hN' : 1 ≤ N ∧ N ≤ 6 := by omega
  have w1 : IntKind.i64.wrap (1 + n0 % 6) = N := by rw [hN]; exact wrap_small (by omega) (by omega)
  have w2 : IntKind.i64.wrap ((N : Int) + 1) = (N : Int) + 1 := wrap_small (by omega) (by omega)
  have w3 : IntKind.i64.wrap ((N : Int) - 1) = (N : Int) - 1 := wrap_small (by omega) (by omega)
  have hw3 := within_ok τ0 ((N : Int) + 1) (by omega) []
  obtain ⟨τ, hτ⟩ : ∃ τ : Nat, τ0 % ((N : Int) + 1) = τ := ⟨(τ0 % ((N : Int) + 1)).toNat, by have := Int.emod_nonneg τ0 (show (N : Int) + 1 ≠ 0 by omega); omega⟩
  rw [hτ] at hw3
  have hnew := new_ok first (by omega) []
  have s : St ([] ++ [LO.own 4 [.bool false], LO.own 67 [.int .i64 first, .sl 0 0 0 1]]) 1 0 first (bits N τ 0 ++ [false]) :=
    ⟨by omega, by simp [bits]; omega, ⟨0, rfl⟩, ⟨[.bool false], rfl, by simp [bits]⟩⟩
  obtain ⟨h1, j1, a1, a2⟩ := back_loop1 (τ := τ) hN' hf N _ _ 0 s (by omega)
  have e1 : bits N τ N ++ [false] = bits N τ (N + 1) := by
    rw [bits_succ]
    have : decide (N = τ ∧ N < N) = false := decide_eq_false (by omega)
    rw [this]
  rw [e1] at a2
  obtain ⟨ex, fr, h2, b1, b2⟩ := back_loop2 hN' hf N h1 j1 a2 (Nat.le_refl _)
  simp at hnew a1
  rcases b2 with ⟨rfl, rfl⟩ | ⟨rfl, rfl, j2, s2⟩
  · refine callX_ex (e := C8.e5) rfl (by simp [C8.e5]) ?_
    refine ⟨h2, ?_, trivial⟩
    refine body_of (fr := [(6, some (.s (.bool true)))]) ?_ (by simp [C8.e5, bodyX, codeL, opsE, stepE, isCall, calleeE, opE, wantE, odE, odS, odL, odSL, fget, fput, initE, keepF, binE, intOp, strOp, unE, eqpE, eqnE, neqB, ressE, resE, packL, packE, flat1, fcells, fillE, setL, cellsOf, lenE_sl, lenE_nils, lenE_sl0, bound, drawE_nil, traceE, slotsG, slotsE, odT, odsT, optT, partsT, rep, List.getElem?_cons_zero, List.getElem?_cons_succ, get_len, get_len_add])
    show codeL (callX C) b5 _ _ = _
    unfold b5
    refine seq_step (by simp [bodyX, codeL, opsE, stepE, isCall, calleeE, opE, wantE, odE, odS, odL, odSL, fget, fput, initE, keepF, binE, intOp, strOp, unE, eqpE, eqnE, neqB, ressE, resE, packL, packE, flat1, fcells, fillE, setL, cellsOf, lenE_sl, lenE_nils, lenE_sl0, bound, drawE_nil, traceE, slotsG, slotsE, odT, odsT, optT, partsT, rep, List.getElem?_cons_zero, List.getElem?_cons_succ, get_len, get_len_add]; first | exact ⟨rfl, rfl⟩ | rfl) ?_
    refine seq_step (by simp [bodyX, codeL, opsE, stepE, isCall, calleeE, opE, wantE, odE, odS, odL, odSL, fget, fput, initE, keepF, binE, intOp, strOp, unE, eqpE, eqnE, neqB, ressE, resE, packL, packE, flat1, fcells, fillE, setL, cellsOf, lenE_sl, lenE_nils, lenE_sl0, bound, drawE_nil, traceE, slotsG, slotsE, odT, odsT, optT, partsT, rep, List.getElem?_cons_zero, List.getElem?_cons_succ, get_len, get_len_add, hw1, hw2, w1]; first | exact ⟨rfl, rfl⟩ | rfl) ?_
    refine seq_step (by simp [bodyX, codeL, opsE, stepE, isCall, calleeE, opE, wantE, odE, odS, odL, odSL, fget, fput, initE, keepF, binE, intOp, strOp, unE, eqpE, eqnE, neqB, ressE, resE, packL, packE, flat1, fcells, fillE, setL, cellsOf, lenE_sl, lenE_nils, lenE_sl0, bound, drawE_nil, traceE, slotsG, slotsE, odT, odsT, optT, partsT, rep, List.getElem?_cons_zero, List.getElem?_cons_succ, get_len, get_len_add, w2, hw3]; first | exact ⟨rfl, rfl⟩ | rfl) ?_
    refine seq_step (by simp [bodyX, codeL, opsE, stepE, isCall, calleeE, opE, wantE, odE, odS, odL, odSL, fget, fput, initE, keepF, binE, intOp, strOp, unE, eqpE, eqnE, neqB, ressE, resE, packL, packE, flat1, fcells, fillE, setL, cellsOf, lenE_sl, lenE_nils, lenE_sl0, bound, drawE_nil, traceE, slotsG, slotsE, odT, odsT, optT, partsT, rep, List.getElem?_cons_zero, List.getElem?_cons_succ, get_len, get_len_add, hnew]; first | exact ⟨rfl, rfl⟩ | rfl) ?_
    refine seq_step (by simp [bodyX, codeL, opsE, stepE, isCall, calleeE, opE, wantE, odE, odS, odL, odSL, fget, fput, initE, keepF, binE, intOp, strOp, unE, eqpE, eqnE, neqB, ressE, resE, packL, packE, flat1, fcells, fillE, setL, cellsOf, lenE_sl, lenE_nils, lenE_sl0, bound, drawE_nil, traceE, slotsG, slotsE, odT, odsT, optT, partsT, rep, List.getElem?_cons_zero, List.getElem?_cons_succ, get_len, get_len_add]; first | exact ⟨rfl, rfl⟩ | rfl) ?_
    refine seq_step (by simp [bodyX, codeL, opsE, stepE, isCall, calleeE, opE, wantE, odE, odS, odL, odSL, fget, fput, initE, keepF, binE, intOp, strOp, unE, eqpE, eqnE, neqB, ressE, resE, packL, packE, flat1, fcells, fillE, setL, cellsOf, lenE_sl, lenE_nils, lenE_sl0, bound, drawE_nil, traceE, slotsG, slotsE, odT, odsT, optT, partsT, rep, List.getElem?_cons_zero, List.getElem?_cons_succ, get_len, get_len_add, a1]; first | exact ⟨rfl, rfl⟩ | rfl) ?_
    refine seq_end (by simp [bodyX, codeL, opsE, stepE, isCall, calleeE, opE, wantE, odE, odS, odL, odSL, fget, fput, initE, keepF, binE, intOp, strOp, unE, eqpE, eqnE, neqB, ressE, resE, packL, packE, flat1, fcells, fillE, setL, cellsOf, lenE_sl, lenE_nils, lenE_sl0, bound, drawE_nil, traceE, slotsG, slotsE, odT, odsT, optT, partsT, rep, List.getElem?_cons_zero, List.getElem?_cons_succ, get_len, get_len_add, w3, b1]) (by simp)
  · have r1 := reopen_none s2 (bits_len _ _ _)
    obtain ⟨h6, g1, g2, g3⟩ := wakes_ok h2
    refine callX_ex (e := C8.e5) rfl (by simp [C8.e5]) ?_
    refine ⟨h6, ?_, trivial⟩
    refine body_of (fr := [(6, some (.s (.bool true)))]) ?_ (by simp [C8.e5, bodyX, codeL, opsE, stepE, isCall, calleeE, opE, wantE, odE, odS, odL, odSL, fget, fput, initE, keepF, binE, intOp, strOp, unE, eqpE, eqnE, neqB, ressE, resE, packL, packE, flat1, fcells, fillE, setL, cellsOf, lenE_sl, lenE_nils, lenE_sl0, bound, drawE_nil, traceE, slotsG, slotsE, odT, odsT, optT, partsT, rep, List.getElem?_cons_zero, List.getElem?_cons_succ, get_len, get_len_add])
    show codeL (callX C) b5 _ _ = _
    unfold b5
    refine seq_step (by simp [bodyX, codeL, opsE, stepE, isCall, calleeE, opE, wantE, odE, odS, odL, odSL, fget, fput, initE, keepF, binE, intOp, strOp, unE, eqpE, eqnE, neqB, ressE, resE, packL, packE, flat1, fcells, fillE, setL, cellsOf, lenE_sl, lenE_nils, lenE_sl0, bound, drawE_nil, traceE, slotsG, slotsE, odT, odsT, optT, partsT, rep, List.getElem?_cons_zero, List.getElem?_cons_succ, get_len, get_len_add]; first | exact ⟨rfl, rfl⟩ | rfl) ?_
    refine seq_step (by simp [bodyX, codeL, opsE, stepE, isCall, calleeE, opE, wantE, odE, odS, odL, odSL, fget, fput, initE, keepF, binE, intOp, strOp, unE, eqpE, eqnE, neqB, ressE, resE, packL, packE, flat1, fcells, fillE, setL, cellsOf, lenE_sl, lenE_nils, lenE_sl0, bound, drawE_nil, traceE, slotsG, slotsE, odT, odsT, optT, partsT, rep, List.getElem?_cons_zero, List.getElem?_cons_succ, get_len, get_len_add, hw1, hw2, w1]; first | exact ⟨rfl, rfl⟩ | rfl) ?_
    refine seq_step (by simp [bodyX, codeL, opsE, stepE, isCall, calleeE, opE, wantE, odE, odS, odL, odSL, fget, fput, initE, keepF, binE, intOp, strOp, unE, eqpE, eqnE, neqB, ressE, resE, packL, packE, flat1, fcells, fillE, setL, cellsOf, lenE_sl, lenE_nils, lenE_sl0, bound, drawE_nil, traceE, slotsG, slotsE, odT, odsT, optT, partsT, rep, List.getElem?_cons_zero, List.getElem?_cons_succ, get_len, get_len_add, w2, hw3]; first | exact ⟨rfl, rfl⟩ | rfl) ?_
    refine seq_step (by simp [bodyX, codeL, opsE, stepE, isCall, calleeE, opE, wantE, odE, odS, odL, odSL, fget, fput, initE, keepF, binE, intOp, strOp, unE, eqpE, eqnE, neqB, ressE, resE, packL, packE, flat1, fcells, fillE, setL, cellsOf, lenE_sl, lenE_nils, lenE_sl0, bound, drawE_nil, traceE, slotsG, slotsE, odT, odsT, optT, partsT, rep, List.getElem?_cons_zero, List.getElem?_cons_succ, get_len, get_len_add, hnew]; first | exact ⟨rfl, rfl⟩ | rfl) ?_
    refine seq_step (by simp [bodyX, codeL, opsE, stepE, isCall, calleeE, opE, wantE, odE, odS, odL, odSL, fget, fput, initE, keepF, binE, intOp, strOp, unE, eqpE, eqnE, neqB, ressE, resE, packL, packE, flat1, fcells, fillE, setL, cellsOf, lenE_sl, lenE_nils, lenE_sl0, bound, drawE_nil, traceE, slotsG, slotsE, odT, odsT, optT, partsT, rep, List.getElem?_cons_zero, List.getElem?_cons_succ, get_len, get_len_add]; first | exact ⟨rfl, rfl⟩ | rfl) ?_
    refine seq_step (by simp [bodyX, codeL, opsE, stepE, isCall, calleeE, opE, wantE, odE, odS, odL, odSL, fget, fput, initE, keepF, binE, intOp, strOp, unE, eqpE, eqnE, neqB, ressE, resE, packL, packE, flat1, fcells, fillE, setL, cellsOf, lenE_sl, lenE_nils, lenE_sl0, bound, drawE_nil, traceE, slotsG, slotsE, odT, odsT, optT, partsT, rep, List.getElem?_cons_zero, List.getElem?_cons_succ, get_len, get_len_add, a1]; first | exact ⟨rfl, rfl⟩ | rfl) ?_
    refine seq_step (by simp [bodyX, codeL, opsE, stepE, isCall, calleeE, opE, wantE, odE, odS, odL, odSL, fget, fput, initE, keepF, binE, intOp, strOp, unE, eqpE, eqnE, neqB, ressE, resE, packL, packE, flat1, fcells, fillE, setL, cellsOf, lenE_sl, lenE_nils, lenE_sl0, bound, drawE_nil, traceE, slotsG, slotsE, odT, odsT, optT, partsT, rep, List.getElem?_cons_zero, List.getElem?_cons_succ, get_len, get_len_add, w3, b1]; first | exact ⟨rfl, rfl⟩ | rfl) ?_
    refine seq_step (by simp [bodyX, codeL, opsE, stepE, isCall, calleeE, opE, wantE, odE, odS, odL, odSL, fget, fput, initE, keepF, binE, intOp, strOp, unE, eqpE, eqnE, neqB, ressE, resE, packL, packE, flat1, fcells, fillE, setL, cellsOf, lenE_sl, lenE_nils, lenE_sl0, bound, drawE_nil, traceE, slotsG, slotsE, odT, odsT, optT, partsT, rep, List.getElem?_cons_zero, List.getElem?_cons_succ, get_len, get_len_add, r1]; first | exact ⟨rfl, rfl⟩ | rfl) ?_
    simp [bodyX, codeL, opsE, stepE, isCall, calleeE, opE, wantE, odE, odS, odL, odSL, fget, fput, initE, keepF, binE, intOp, strOp, unE, eqpE, eqnE, neqB, ressE, resE, packL, packE, flat1, fcells, fillE, setL, cellsOf, lenE_sl, lenE_nils, lenE_sl0, bound, drawE_nil, traceE, slotsG, slotsE, odT, odsT, optT, partsT, rep, List.getElem?_cons_zero, List.getElem?_cons_succ, get_len, get_len_add, g1]

end Go.Proofs.Ytaafbpniakldpaa.Ev.C8
