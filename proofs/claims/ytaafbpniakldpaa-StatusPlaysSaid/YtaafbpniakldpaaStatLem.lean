/- What the functions of a Status come to on the small machine. -/
import Derived.Test.YtaafbpniakldpaaCode8
set_option linter.unusedSimpArgs false
set_option linter.unusedVariables false
namespace Go.Proofs.Ytaafbpniakldpaa.Ev
open Go
theorem drawE_nil {call : CallE} {l : List EG} {fr : Fr} {h : LH} : drawE call l [] fr h = (traceE call l fr h).map (·.2) := by
  unfold drawE
  cases traceE call l fr h with
  | none => rfl
  | some x => simp [okPairs]
theorem appE_nils {h : LH} {t z y n : Nat} {new : List SV} (hn : n ≠ 0) (hy : n * y ≤ 140737488355328) : appE h t z y .nils n new = some (.s (.sl h.length 0 0 n), h ++ [.own t new]) := by
  unfold appE; simp [hn, hy]
theorem appE_own {h : LH} {t z y i p o m n : Nat} {vs new : List SV} (hi : h[i]? = some (.own t vs)) (hn : n ≠ 0) (hom : (o + m) * z ≤ vs.length) (hy : (m + n) * y ≤ 140737488355328) :
    appE h t z y (.sl i p o m) n new = some (.s (.sl h.length 0 0 (m + n)), h.set i .dead ++ [.own t ((vs.drop (o * z)).take (m * z) ++ new)]) := by
  unfold appE; simp [hn, hi, hom, hy]
theorem appE_zero {h : LH} {t z y i p o m : Nat} {new : List SV} : appE h t z y (.sl i p o m) 0 new = some (.s (.sl i p o m), h) := by
  unfold appE; simp
theorem appE_zero' {h : LH} {t z y : Nat} {new : List SV} : appE h t z y .nils 0 new = some (.s .nils, h) := by
  unfold appE; simp
theorem get_len {h r : LH} {x : LO} : (h ++ x :: r)[h.length]? = some x := by
  rw [List.getElem?_append_right (Nat.le_refl _), Nat.sub_self]; rfl
theorem get_len_add {h r : LH} {k : Nat} : (h ++ r)[h.length + k]? = r[k]? := by
  rw [List.getElem?_append_right (by omega)]; congr 1; omega
section heap
variable {h r : LH} {i j k : Nat} {x y z : LO}
theorem get_app (hi : i < h.length) : (h ++ r)[i]? = h[i]? := List.getElem?_append_left hi
theorem set_app (hi : i < h.length) : (h ++ r).set i x = h.set i x ++ r := List.set_append_left _ _ hi
theorem get_app1 (hi : i < h.length) : (h.set j x ++ r)[i]? = (h.set j x)[i]? := List.getElem?_append_left (by rw [List.length_set]; exact hi)
theorem set_app1 (hi : i < h.length) : (h.set j x ++ r).set i y = (h.set j x).set i y ++ r := List.set_append_left _ _ (by rw [List.length_set]; exact hi)
theorem get_app2 (hi : i < h.length) : ((h.set j x).set k y ++ r)[i]? = ((h.set j x).set k y)[i]? := List.getElem?_append_left (by rw [List.length_set, List.length_set]; exact hi)
theorem set_app2 (hi : i < h.length) : ((h.set j x).set k y ++ r).set i z = ((h.set j x).set k y).set i z ++ r := List.set_append_left _ _ (by rw [List.length_set, List.length_set]; exact hi)
theorem get_ne (hne : i ≠ j) : (h.set i x)[j]? = h[j]? := List.getElem?_set_ne hne
theorem get_self (hi : i < h.length) : (h.set i x)[i]? = some x := List.getElem?_set_self hi
theorem get_self1 (hi : i < h.length) : ((h.set j y).set i x)[i]? = some x := List.getElem?_set_self (by rw [List.length_set]; exact hi)
theorem get_len_add1 : (h.set i x ++ r)[h.length + k]? = r[k]? := by
  rw [List.getElem?_append_right (by simp)]; congr 1; simp
theorem get_len_add2 : ((h.set i x).set j y ++ r)[h.length + k]? = r[k]? := by
  rw [List.getElem?_append_right (by simp)]; congr 1; simp
theorem get_len1 : (h.set i x ++ y :: r)[h.length]? = some y := by
  rw [List.getElem?_append_right (by simp)]; simp
theorem get_len2 : ((h.set i x).set j y ++ z :: r)[h.length]? = some z := by
  rw [List.getElem?_append_right (by simp)]; simp
theorem get_app3 {m : Nat} {w : LO} (hi : i < h.length) : (((h.set j x).set k y).set m w ++ r)[i]? = (((h.set j x).set k y).set m w)[i]? := List.getElem?_append_left (by simp; exact hi)
theorem set_app3 {m : Nat} {u w : LO} (hi : i < h.length) : (((h.set j x).set k y).set m w ++ r).set i u = (((h.set j x).set k y).set m w).set i u ++ r := List.set_append_left _ _ (by simp; exact hi)
theorem get_self2 {w : LO} (hi : i < h.length) : (((h.set j x).set k y).set i w)[i]? = some w := List.getElem?_set_self (by simp; exact hi)
theorem get_len_add3 {m n : Nat} {w : LO} : (((h.set i x).set j y).set m w ++ r)[h.length + n]? = r[n]? := by
  rw [List.getElem?_append_right (by simp)]; congr 1; simp
end heap
theorem wrap_small {n : Int} (h0 : -9223372036854775808 ≤ n) (h1 : n < 9223372036854775808) : IntKind.i64.wrap n = n := by
  simp [IntKind.wrap, IntKind.bits, IntKind.signed]; omega
theorem callX_ex {C : Nat → Option EF} {f : Nat} {e : EF} (hf : C f = some e) {args : List FV} (hl : args.length ≤ e.slots) {h : LH} {v : FV} {Φ : LH → Prop} (he : ∃ h', bodyX C e args h = some (v, h') ∧ Φ h') : ∃ h', callX C f args h = some (v, h') ∧ Φ h' := by
  obtain ⟨h', h1, h2⟩ := he
  exact ⟨h', callX_intro hf hl h1, h2⟩
theorem callX_exv {C : Nat → Option EF} {f : Nat} {e : EF} (hf : C f = some e) {args : List FV} (hl : args.length ≤ e.slots) {h : LH} {Φ : FV → LH → Prop} (he : ∃ v h', bodyX C e args h = some (v, h') ∧ Φ v h') : ∃ v h', callX C f args h = some (v, h') ∧ Φ v h' := by
  obtain ⟨v, h', h1, h2⟩ := he
  exact ⟨v, h', callX_intro hf hl h1, h2⟩
namespace C8
theorem within_ok (v n : Int) (hn : 1 ≤ n ∧ n ≤ 1000000) (h : LH) : callX C 12 [.s (.int .i64 v), .s (.int .i64 n)] h = some (.s (.int .i64 (v % n)), h) := by
  refine callX_intro (e := e12) rfl (by simp [e12]) ?_
  have h1 : ¬ (n < 1) := by omega
  have h2 : ¬ (n = 0) := by omega
  have q1 := Int.tmod_lt_of_pos v (show 0 < n by omega)
  have q2 := Int.lt_tmod_of_pos v (show 0 < n by omega)
  have key : v.tmod n = if v.tmod n < 0 then v % n - n else v % n := by
    have e : v % n = (v.tmod n) % n := by
      have h := Int.mul_tdiv_add_tmod v n
      calc v % n = (n * v.tdiv n + v.tmod n) % n := by rw [h]
        _ = (v.tmod n) % n := by rw [Int.add_comm, Int.add_mul_emod_self_left]
    split
    · have : (v.tmod n) % n = v.tmod n + n := by
        rw [← Int.add_emod_right, Int.emod_eq_of_lt (by omega) (by omega)]
      omega
    · rw [e, Int.emod_eq_of_lt (by omega) (by omega)]
  have hlt := Int.emod_lt_of_pos v (show 0 < n by omega)
  have hge := Int.emod_nonneg v (show n ≠ 0 by omega)
  by_cases hk : v.tmod n < 0
  · rw [if_pos hk] at key
    have hw : IntKind.i64.wrap (v.tmod n + n) = v % n := by rw [wrap_small (by omega) (by omega)]; omega
    simp [e12, b12, bodyX, codeL, opsE, stepE, isCall, calleeE, opE, wantE, odE, odS, odL, odSL, fget, fput, initE, keepF, binE, intOp, strOp, unE, eqpE, eqnE, neqB, ressE, resE, packL, packE, flat1, fcells, fillE, setL, cellsOf, lenE_sl, lenE_nils, lenE_sl0, bound, drawE_nil, traceE, slotsG, slotsE, odT, odsT, optT, partsT, rep, List.getElem?_cons_zero, List.getElem?_cons_succ, get_len, get_len_add, get_len1, get_len2, get_len_add1, get_len_add2, h1, h2, hk, hw]
  · rw [if_neg hk] at key
    simp [e12, b12, bodyX, codeL, opsE, stepE, isCall, calleeE, opE, wantE, odE, odS, odL, odSL, fget, fput, initE, keepF, binE, intOp, strOp, unE, eqpE, eqnE, neqB, ressE, resE, packL, packE, flat1, fcells, fillE, setL, cellsOf, lenE_sl, lenE_nils, lenE_sl0, bound, drawE_nil, traceE, slotsG, slotsE, odT, odsT, optT, partsT, rep, List.getElem?_cons_zero, List.getElem?_cons_succ, get_len, get_len_add, get_len1, get_len2, get_len_add1, get_len_add2, h1, h2, hk]
    exact key
theorem right_ok (p : Int) (h : LH) : callX C 38 [.s (.int .i64 p)] h = some (.s (.bool (decide (0 ≤ p ∧ p ≤ 399))), h) := by
  refine callX_intro (e := e38) rfl (by simp [e38]) ?_
  by_cases h0 : p ≥ 0
  · simp [e38, b38, bodyX, codeL, opsE, stepE, isCall, calleeE, opE, wantE, odE, odS, odL, odSL, fget, fput, initE, keepF, binE, intOp, strOp, unE, eqpE, eqnE, neqB, ressE, resE, packL, packE, flat1, fcells, fillE, setL, cellsOf, lenE_sl, lenE_nils, lenE_sl0, bound, drawE_nil, traceE, slotsG, slotsE, odT, odsT, optT, partsT, rep, List.getElem?_cons_zero, List.getElem?_cons_succ, get_len, get_len_add, get_len1, get_len2, get_len_add1, get_len_add2, h0]
  · simp [e38, b38, bodyX, codeL, opsE, stepE, isCall, calleeE, opE, wantE, odE, odS, odL, odSL, fget, fput, initE, keepF, binE, intOp, strOp, unE, eqpE, eqnE, neqB, ressE, resE, packL, packE, flat1, fcells, fillE, setL, cellsOf, lenE_sl, lenE_nils, lenE_sl0, bound, drawE_nil, traceE, slotsG, slotsE, odT, odsT, optT, partsT, rep, List.getElem?_cons_zero, List.getElem?_cons_succ, get_len, get_len_add, get_len1, get_len2, get_len_add1, get_len_add2, h0]
theorem right_yes {p : Int} (hp : 0 ≤ p ∧ p ≤ 399) (h : LH) : callX C 38 [.s (.int .i64 p)] h = some (.s (.bool true), h) := by
  rw [right_ok, decide_eq_true hp]
theorem right_no {p : Int} (hp : ¬ (0 ≤ p ∧ p ≤ 399)) (h : LH) : callX C 38 [.s (.int .i64 p)] h = some (.s (.bool false), h) := by
  rw [right_ok, decide_eq_false hp]
theorem new_ok (p : Int) (hp : 0 ≤ p ∧ p ≤ 399) (h : LH) : callX C 13 [.s (.int .i64 p)] h = some (.tup [.s (.ptr (h.length + 1) 0), .s (.int .i64 0)], h ++ [.own 4 [.bool false], .own 67 [.int .i64 p, .sl h.length 0 0 1]]) := by
  refine callX_intro (e := e13) rfl (by simp [e13]) ?_
  simp [e13, b13, bodyX, codeL, opsE, stepE, isCall, calleeE, opE, wantE, odE, odS, odL, odSL, fget, fput, initE, keepF, binE, intOp, strOp, unE, eqpE, eqnE, neqB, ressE, resE, packL, packE, flat1, fcells, fillE, setL, cellsOf, lenE_sl, lenE_nils, lenE_sl0, bound, drawE_nil, traceE, slotsG, slotsE, odT, odsT, optT, partsT, rep, List.getElem?_cons_zero, List.getElem?_cons_succ, get_len, get_len_add, get_len1, get_len2, get_len_add1, get_len_add2, right_yes hp]
theorem new_bad (p : Int) (hp : ¬ (0 ≤ p ∧ p ≤ 399)) (h : LH) : callX C 13 [.s (.int .i64 p)] h = some (.tup [.s .nilp, .s (.int .i64 1)], h) := by
  refine callX_intro (e := e13) rfl (by simp [e13]) ?_
  simp [e13, b13, bodyX, codeL, opsE, stepE, isCall, calleeE, opE, wantE, odE, odS, odL, odSL, fget, fput, initE, keepF, binE, intOp, strOp, unE, eqpE, eqnE, neqB, ressE, resE, packL, packE, flat1, fcells, fillE, setL, cellsOf, lenE_sl, lenE_nils, lenE_sl0, bound, drawE_nil, traceE, slotsG, slotsE, odT, odsT, optT, partsT, rep, List.getElem?_cons_zero, List.getElem?_cons_succ, get_len, get_len_add, get_len1, get_len2, get_len_add1, get_len_add2, right_no hp]

/-- A Status: its object, the object of what was touched. -/
structure St (h : LH) (i j : Nat) (first : Int) (t : List Bool) : Prop where
  fr : 0 ≤ first ∧ first ≤ 399
  len : 1 ≤ t.length ∧ first + t.length ≤ 401
  obj : ∃ p, h[i]? = some (.own 67 [.int .i64 first, .sl j p 0 t.length])
  arr : ∃ vs, h[j]? = some (.own 4 vs) ∧ vs.take t.length = t.map .bool

theorem St.ne {h : LH} {i j : Nat} {first : Int} {t : List Bool} (s : St h i j first t) : i ≠ j := by
  rintro rfl
  obtain ⟨p, h1⟩ := s.obj
  obtain ⟨vs, h2, _⟩ := s.arr
  rw [h1] at h2
  cases h2

theorem St.le {h : LH} {i j : Nat} {first : Int} {t : List Bool} (s : St h i j first t) {vs : List SV} (hj : h[j]? = some (.own 4 vs)) : t.length ≤ vs.length := by
  obtain ⟨vs', h2, h3⟩ := s.arr
  rw [hj] at h2
  cases h2
  have := congrArg List.length h3
  simp only [List.length_take, List.length_map] at this
  omega

theorem St.keep {h h' : LH} {i j : Nat} {first : Int} {t : List Bool} (s : St h i j first t) (hi : h'[i]? = h[i]?) (hj : h'[j]? = h[j]?) : St h' i j first t :=
  ⟨s.fr, s.len, by rw [hi]; exact s.obj, by rw [hj]; exact s.arr⟩

theorem last_ok {h : LH} {i j : Nat} {first : Int} {t : List Bool} (s : St h i j first t) : callX C 39 [.s (.ptr i 0)] h = some (.s (.int .i64 (first + t.length - 1)), h) := by
  refine callX_intro (e := e39) rfl (by simp [e39]) ?_
  obtain ⟨p, h1⟩ := s.obj
  have hf := s.fr
  have hl := s.len
  have w1 : IntKind.i64.wrap (first + t.length) = first + t.length := wrap_small (by omega) (by omega)
  have w2 : IntKind.i64.wrap (first + t.length - 1) = first + t.length - 1 := wrap_small (by omega) (by omega)
  simp [e39, b39, bodyX, codeL, opsE, stepE, isCall, calleeE, opE, wantE, odE, odS, odL, odSL, fget, fput, initE, keepF, binE, intOp, strOp, unE, eqpE, eqnE, neqB, ressE, resE, packL, packE, flat1, fcells, fillE, setL, cellsOf, lenE_sl, lenE_nils, lenE_sl0, bound, drawE_nil, traceE, slotsG, slotsE, odT, odsT, optT, partsT, rep, List.getElem?_cons_zero, List.getElem?_cons_succ, get_len, get_len_add, get_len1, get_len2, get_len_add1, get_len_add2, h1, w1, w2]

theorem open_yes {h : LH} {i j : Nat} {first : Int} {t : List Bool} (s : St h i j first t) (hp : first + t.length ≤ 400) : callX C 14 [.s (.ptr i 0)] h = some (.tup [.s (.int .i64 (first + t.length - 1)), .s (.bool true)], h) := by
  refine callX_intro (e := e14) rfl (by simp [e14]) ?_
  have hf := s.fr
  have hl := s.len
  have h1 : 0 ≤ first + (t.length : Int) - 1 ∧ first + (t.length : Int) - 1 ≤ 399 := by omega
  simp [e14, b14, bodyX, codeL, opsE, stepE, isCall, calleeE, opE, wantE, odE, odS, odL, odSL, fget, fput, initE, keepF, binE, intOp, strOp, unE, eqpE, eqnE, neqB, ressE, resE, packL, packE, flat1, fcells, fillE, setL, cellsOf, lenE_sl, lenE_nils, lenE_sl0, bound, drawE_nil, traceE, slotsG, slotsE, odT, odsT, optT, partsT, rep, List.getElem?_cons_zero, List.getElem?_cons_succ, get_len, get_len_add, get_len1, get_len2, get_len_add1, get_len_add2, last_ok s, right_yes h1]

theorem open_no {h : LH} {i j : Nat} {first : Int} {t : List Bool} (s : St h i j first t) (hp : first + t.length = 401) : callX C 14 [.s (.ptr i 0)] h = some (.tup [.s (.int .i64 0), .s (.bool false)], h) := by
  refine callX_intro (e := e14) rfl (by simp [e14]) ?_
  have h1 : ¬ (0 ≤ first + (t.length : Int) - 1 ∧ first + (t.length : Int) - 1 ≤ 399) := by omega
  simp [e14, b14, bodyX, codeL, opsE, stepE, isCall, calleeE, opE, wantE, odE, odS, odL, odSL, fget, fput, initE, keepF, binE, intOp, strOp, unE, eqpE, eqnE, neqB, ressE, resE, packL, packE, flat1, fcells, fillE, setL, cellsOf, lenE_sl, lenE_nils, lenE_sl0, bound, drawE_nil, traceE, slotsG, slotsE, odT, odsT, optT, partsT, rep, List.getElem?_cons_zero, List.getElem?_cons_succ, get_len, get_len_add, get_len1, get_len2, get_len_add1, get_len_add2, last_ok s, right_no h1]

theorem lt_of_some {h : LH} {i : Nat} {o : LO} (e : h[i]? = some o) : i < h.length := (List.getElem?_eq_some_iff.1 e).1

theorem close_yes {h : LH} {i j : Nat} {first : Int} {t : List Bool} (s : St h i j first t) (hp : first + t.length ≤ 400) :
    ∃ h', callX C 15 [.s (.ptr i 0)] h = some (.s (.int .i64 0), h') ∧ St h' i (h.length + 1) first (t ++ [false]) ∧ h.length ≤ h'.length ∧ ∀ k, k < h.length → k ≠ i → k ≠ j → h'[k]? = h[k]? := by
  obtain ⟨p, h1⟩ := s.obj
  obtain ⟨vs, h2, h3⟩ := s.arr
  have hle := s.le h2
  have hi := lt_of_some h1
  have hj := lt_of_some h2
  have hne := s.ne
  have hl := s.len
  have hf := s.fr
  have hbig : t.length + 1 ≤ 140737488355328 := by omega
  refine callX_ex (e := e15) rfl (by simp [e15]) ?_
  have hA := appE_own (h := h ++ [LO.own 4 [SV.bool false]]) (t := 4) (z := 1) (y := 1) (i := j) (p := p) (o := 0) (m := t.length) (n := 1) (new := [SV.bool false]) (by rw [List.getElem?_append_left hj]; exact h2) (by omega) (by omega) (by omega)
  simp [e15, b15, bodyX, codeL, opsE, stepE, isCall, calleeE, opE, wantE, odE, odS, odL, odSL, fget, fput, initE, keepF, binE, intOp, strOp, unE, eqpE, eqnE, neqB, ressE, resE, packL, packE, flat1, fcells, fillE, setL, cellsOf, lenE_sl, lenE_nils, lenE_sl0, bound, drawE_nil, traceE, slotsG, slotsE, odT, odsT, optT, partsT, rep, List.getElem?_cons_zero, List.getElem?_cons_succ, get_len, get_len_add, get_len1, get_len2, get_len_add1, get_len_add2, open_yes s hp, h1, h2, elems, hA, get_app hi, get_app hj, set_app hi, set_app hj, get_app1 hi, set_app1 hi, get_ne hne, get_ne (Ne.symm hne), get_self1 hi, -getElem?_pos]
  refine ⟨⟨hf, by simp; omega, ⟨0, ?_⟩, ⟨List.take t.length vs ++ [SV.bool false], ?_, ?_⟩⟩, fun k hk hki hkj => ?_⟩
  · rw [get_app2 hi, get_self1 hi]; simp
  · rw [get_len_add2]; rfl
  · have : (List.take t.length vs ++ [SV.bool false]).length = t.length + 1 := by simp; omega
    rw [List.length_append, List.length_singleton, ← this, List.take_length, h3]; simp
  · rw [get_app2 hk, get_ne (Ne.symm hki), get_ne (Ne.symm hkj)]

theorem close_no {h : LH} {i j : Nat} {first : Int} {t : List Bool} (s : St h i j first t) (hp : first + t.length = 401) : callX C 15 [.s (.ptr i 0)] h = some (.s (.int .i64 8), h) := by
  refine callX_intro (e := e15) rfl (by simp [e15]) ?_
  simp [e15, b15, bodyX, codeL, opsE, stepE, isCall, calleeE, opE, wantE, odE, odS, odL, odSL, fget, fput, initE, keepF, binE, intOp, strOp, unE, eqpE, eqnE, neqB, ressE, resE, packL, packE, flat1, fcells, fillE, setL, cellsOf, lenE_sl, lenE_nils, lenE_sl0, bound, drawE_nil, traceE, slotsG, slotsE, odT, odsT, optT, partsT, rep, List.getElem?_cons_zero, List.getElem?_cons_succ, get_len, get_len_add, get_len1, get_len2, get_len_add1, get_len_add2, open_no s hp]

theorem St.bit {h : LH} {i j : Nat} {first : Int} {t : List Bool} (s : St h i j first t) {vs : List SV} (hj : h[j]? = some (.own 4 vs)) {k : Nat} (hk : k < t.length) : vs[k]? = some (.bool t[k]) := by
  obtain ⟨vs', h2, h3⟩ := s.arr
  rw [hj] at h2
  cases h2
  have := congrArg (fun l => l[k]?) h3
  simp only [List.getElem?_take_of_lt hk, List.getElem?_map, List.getElem?_eq_getElem hk] at this
  exact this

theorem touch_yes {h : LH} {i j : Nat} {first : Int} {t : List Bool} (s : St h i j first t) (hp : first + t.length ≤ 400) :
    ∃ h', callX C 16 [.s (.ptr i 0)] h = some (.s (.int .i64 0), h') ∧ St h' i j first (t.set (t.length - 1) true) ∧ h.length ≤ h'.length ∧ ∀ k, k ≠ j → h'[k]? = h[k]? := by
  obtain ⟨p, h1⟩ := s.obj
  obtain ⟨vs, h2, h3⟩ := s.arr
  have hle := s.le h2
  have hi := lt_of_some h1
  have hj := lt_of_some h2
  have hne := s.ne
  have hl := s.len
  have hf := s.fr
  have w1 : IntKind.i64.wrap ((t.length : Int) - 1) = (t.length : Int) - 1 := wrap_small (by omega) (by omega)
  have w2 : 0 ≤ (t.length : Int) - 1 := by omega
  have w2' : 1 ≤ (t.length : Int) := by omega
  have w3 : (t.length : Int) - 1 < t.length := by omega
  have w4 : ((t.length : Int) - 1).toNat = t.length - 1 := by omega
  have w5 : t.length - 1 + 1 ≤ vs.length := by omega
  refine callX_ex (e := e16) rfl (by simp [e16]) ?_
  simp [e16, b16, bodyX, codeL, opsE, stepE, isCall, calleeE, opE, wantE, odE, odS, odL, odSL, fget, fput, initE, keepF, binE, intOp, strOp, unE, eqpE, eqnE, neqB, ressE, resE, packL, packE, flat1, fcells, fillE, setL, cellsOf, lenE_sl, lenE_nils, lenE_sl0, bound, drawE_nil, traceE, slotsG, slotsE, odT, odsT, optT, partsT, rep, List.getElem?_cons_zero, List.getElem?_cons_succ, get_len, get_len_add, get_len1, get_len2, get_len_add1, get_len_add2, open_yes s hp, h1, h2, w1, w2, w2', w3, w4, w5, -getElem?_pos]
  refine ⟨⟨hf, by simp; omega, ⟨p, ?_⟩, ⟨_, get_self hj, ?_⟩⟩, fun k hk => get_ne (Ne.symm hk)⟩
  · rw [get_ne (Ne.symm hne), h1]; simp
  · rw [List.length_set, List.take_set, h3, List.map_set]

theorem touch_no {h : LH} {i j : Nat} {first : Int} {t : List Bool} (s : St h i j first t) (hp : first + t.length = 401) : callX C 16 [.s (.ptr i 0)] h = some (.s (.int .i64 8), h) := by
  refine callX_intro (e := e16) rfl (by simp [e16]) ?_
  simp [e16, b16, bodyX, codeL, opsE, stepE, isCall, calleeE, opE, wantE, odE, odS, odL, odSL, fget, fput, initE, keepF, binE, intOp, strOp, unE, eqpE, eqnE, neqB, ressE, resE, packL, packE, flat1, fcells, fillE, setL, cellsOf, lenE_sl, lenE_nils, lenE_sl0, bound, drawE_nil, traceE, slotsG, slotsE, odT, odsT, optT, partsT, rep, List.getElem?_cons_zero, List.getElem?_cons_succ, get_len, get_len_add, get_len1, get_len2, get_len_add1, get_len_add2, open_no s hp]

theorem reopen_none {h : LH} {i j : Nat} {first : Int} {t : List Bool} (s : St h i j first t) (hp : t.length = 1) : callX C 18 [.s (.ptr i 0)] h = some (.s (.int .i64 3), h) := by
  obtain ⟨p, h1⟩ := s.obj
  rw [hp] at h1
  have w1 : IntKind.i64.wrap 0 = 0 := by decide
  refine callX_intro (e := e18) rfl (by simp [e18]) ?_
  simp [e18, b18, bodyX, codeL, opsE, stepE, isCall, calleeE, opE, wantE, odE, odS, odL, odSL, fget, fput, initE, keepF, binE, intOp, strOp, unE, eqpE, eqnE, neqB, ressE, resE, packL, packE, flat1, fcells, fillE, setL, cellsOf, lenE_sl, lenE_nils, lenE_sl0, bound, drawE_nil, traceE, slotsG, slotsE, odT, odsT, optT, partsT, rep, List.getElem?_cons_zero, List.getElem?_cons_succ, get_len, get_len_add, get_len1, get_len2, get_len_add1, get_len_add2, h1, w1]

theorem reopen_held {h : LH} {i j : Nat} {first : Int} {t : List Bool} (s : St h i j first t) (hp : 2 ≤ t.length) (hb : t[t.length - 1]? = some true) : callX C 18 [.s (.ptr i 0)] h = some (.s (.int .i64 8), h) := by
  obtain ⟨p, h1⟩ := s.obj
  obtain ⟨vs, h2, h3⟩ := s.arr
  have hl := s.len
  have hf := s.fr
  have w1 : IntKind.i64.wrap ((t.length : Int) - 1) = (t.length : Int) - 1 := wrap_small (by omega) (by omega)
  have w2 : 0 ≤ (t.length : Int) - 1 := by omega
  have w2' : 1 ≤ (t.length : Int) := by omega
  have w3 : (t.length : Int) - 1 < t.length := by omega
  have w4 : ((t.length : Int) - 1).toNat = t.length - 1 := by omega
  have w5 : ¬ ((t.length : Int) - 1 = 0) := by omega
  have hb' := s.bit h2 (show t.length - 1 < t.length by omega)
  rw [List.getElem?_eq_getElem (by omega)] at hb
  rw [Option.some.inj hb] at hb'
  refine callX_intro (e := e18) rfl (by simp [e18]) ?_
  simp [e18, b18, bodyX, codeL, opsE, stepE, isCall, calleeE, opE, wantE, odE, odS, odL, odSL, fget, fput, initE, keepF, binE, intOp, strOp, unE, eqpE, eqnE, neqB, ressE, resE, packL, packE, flat1, fcells, fillE, setL, cellsOf, lenE_sl, lenE_nils, lenE_sl0, bound, drawE_nil, traceE, slotsG, slotsE, odT, odsT, optT, partsT, rep, List.getElem?_cons_zero, List.getElem?_cons_succ, get_len, get_len_add, get_len1, get_len2, get_len_add1, get_len_add2, h1, h2, w1, w2, w2', w3, w4, w5, hb', -getElem?_pos]

theorem reopen_yes {h : LH} {i j : Nat} {first : Int} {t : List Bool} (s : St h i j first t) (hp : 2 ≤ t.length) (hb : t[t.length - 1]? = some false) :
    ∃ h', callX C 18 [.s (.ptr i 0)] h = some (.s (.int .i64 0), h') ∧ St h' i j first (t.take (t.length - 1)) ∧ h.length ≤ h'.length ∧ ∀ k, k ≠ i → h'[k]? = h[k]? := by
  obtain ⟨p, h1⟩ := s.obj
  obtain ⟨vs, h2, h3⟩ := s.arr
  have hle := s.le h2
  have hi := lt_of_some h1
  have hj := lt_of_some h2
  have hne := s.ne
  have hl := s.len
  have hf := s.fr
  have w1 : IntKind.i64.wrap ((t.length : Int) - 1) = (t.length : Int) - 1 := wrap_small (by omega) (by omega)
  have w2 : 0 ≤ (t.length : Int) - 1 := by omega
  have w2' : 1 ≤ (t.length : Int) := by omega
  have w3 : (t.length : Int) - 1 < t.length := by omega
  have w4 : ((t.length : Int) - 1).toNat = t.length - 1 := by omega
  have w5 : ¬ ((t.length : Int) - 1 = 0) := by omega
  have w6 : t.length - 1 ≤ t.length := by omega
  have hb' := s.bit h2 (show t.length - 1 < t.length by omega)
  rw [List.getElem?_eq_getElem (by omega)] at hb
  rw [Option.some.inj hb] at hb'
  refine callX_ex (e := e18) rfl (by simp [e18]) ?_
  simp [e18, b18, bodyX, codeL, opsE, stepE, isCall, calleeE, opE, wantE, odE, odS, odL, odSL, fget, fput, initE, keepF, binE, intOp, strOp, unE, eqpE, eqnE, neqB, ressE, resE, packL, packE, flat1, fcells, fillE, setL, cellsOf, lenE_sl, lenE_nils, lenE_sl0, bound, drawE_nil, traceE, slotsG, slotsE, odT, odsT, optT, partsT, rep, List.getElem?_cons_zero, List.getElem?_cons_succ, get_len, get_len_add, get_len1, get_len2, get_len_add1, get_len_add2, h1, h2, w1, w2, w2', w3, w4, w5, hb', w6, -getElem?_pos]
  refine ⟨⟨hf, by simp; omega, ⟨p, ?_⟩, ⟨vs, ?_, ?_⟩⟩, fun k hk => get_ne (Ne.symm hk)⟩
  · rw [get_self hi]; simp
  · rw [get_ne hne, h2]
  · rw [List.length_take, Nat.min_eq_left w6]
    have := congrArg (List.take (t.length - 1)) h3
    rw [List.take_take, Nat.min_eq_left w6] at this
    rw [this, List.map_take]

/-- A list of whole numbers in memory of its own. -/
def Ints (h : LH) (v : SV) (l : List Int) : Prop := (v = .nils ∧ l = []) ∨ ∃ j p, v = .sl j p 0 l.length ∧ h[j]? = some (.own 3 (l.map (.int .i64)))

theorem Ints.len {h : LH} {v : SV} {l : List Int} (hi : Ints h v l) : lenE v = some l.length := by
  rcases hi with ⟨rfl, rfl⟩ | ⟨j, p, rfl, _⟩ <;> rfl

/-- One number more. -/
theorem Ints.app {h : LH} {v : SV} {l : List Int} (hi : Ints h v l) (hl : l.length < 100000) (x : Int) : ∃ h', appE (h ++ [LO.own 3 [SV.int .i64 x]]) 3 1 8 v 1 [SV.int .i64 x] = some (.s (.sl (h.length + 1) 0 0 (l.length + 1)), h') ∧
    Ints h' (.sl (h.length + 1) 0 0 (l.length + 1)) (l ++ [x]) ∧ h.length ≤ h'.length ∧ ∀ k, k < h.length → (∀ p n, v ≠ .sl k p 0 n) → h'[k]? = h[k]? := by
  rcases hi with ⟨rfl, rfl⟩ | ⟨j, p, rfl, hj⟩
  · refine ⟨_, (appE_nils (by omega) (by omega)).trans (by simp; rfl), .inr ⟨h.length + 1, 0, by simp, ?_⟩, by simp, fun k hk _ => ?_⟩
    · rw [get_len_add]; simp
    · rw [get_app hk]
  · have hjl := lt_of_some hj
    refine ⟨_, (appE_own (by rw [get_app hjl]; exact hj) (by omega) (by simp) (by omega)).trans (by simp [set_app hjl]; rfl), .inr ⟨h.length + 1, 0, by simp, ?_⟩, by simp, fun k hk hne => ?_⟩
    · rw [get_len_add1]
      simp [List.take_of_length_le]
    · rw [get_app1 hk, get_ne (fun e => hne p l.length (by rw [e]))]

theorem closed_loop {i j : Nat} {first : Int} {t : List Bool} (n0 : Nat) : ∀ (m : Nat) (h : LH) (v : SV) (l : List Int) (k : Int), St h i j first t → Ints h v l → n0 ≤ h.length → i < n0 → j < n0 → (∀ q p n, v = .sl q p 0 n → n0 ≤ q) → k + m = first + t.length - 1 → 0 ≤ k → l.length + m ≤ 1000 →
    ∃ h' v', loopX (codeL (callX C) l17_0) [0, 3, 4] [(0, some (.s (.ptr i 0))), (3, some (.s v)), (4, some (.s (.int .i64 k)))] h = some (.exit 0, [(3, some (.s v'))], h') ∧
      Ints h' v' (l ++ (List.range m).map (fun (x : Nat) => k + (x : Int))) ∧ St h' i j first t ∧ h.length ≤ h'.length ∧ ∀ q, q < n0 → h'[q]? = h[q]? := by
  intro m
  induction m with
  | zero =>
    intro h v l k s hi hn0 hi0 hj0 hv hk hk0 hl
    refine ⟨h, v, ?_, by simpa using hi, s, Nat.le_refl _, fun _ _ => rfl⟩
    refine loopX_round (by simp [keepF, fget]) ?_
    have hlt : ¬ (k < first + t.length - 1) := by omega
    simp [l17_0, bodyX, codeL, opsE, stepE, isCall, calleeE, opE, wantE, odE, odS, odL, odSL, fget, fput, initE, keepF, binE, intOp, strOp, unE, eqpE, eqnE, neqB, ressE, resE, packL, packE, flat1, fcells, fillE, setL, cellsOf, lenE_sl, lenE_nils, lenE_sl0, bound, drawE_nil, traceE, slotsG, slotsE, odT, odsT, optT, partsT, rep, List.getElem?_cons_zero, List.getElem?_cons_succ, get_len, get_len_add, get_len1, get_len2, get_len_add1, get_len_add2, last_ok s, hlt]
  | succ m ih =>
    intro h v l k s hi hn0 hi0 hj0 hv hk hk0 hl
    have hlt : k < first + t.length - 1 := by omega
    have hlen := s.len
    have hf := s.fr
    have w1 : IntKind.i64.wrap (k + 1) = k + 1 := wrap_small (by omega) (by omega)
    obtain ⟨h1, a1, a2, a3, a4⟩ := hi.app (by omega) k
    have hkeep : ∀ q, q < n0 → h1[q]? = h[q]? := fun q hq => a4 q (by omega) (fun p n e => by have := hv q p n e; omega)
    have s1 : St h1 i j first t := s.keep (hkeep i hi0) (hkeep j hj0)
    obtain ⟨h', v', b1, b2, b3, b4, b5⟩ := ih h1 _ (l ++ [k]) (k + 1) s1 (by simpa using a2) (by omega) hi0 hj0 (fun q p n e => by cases e; omega) (by omega) (by omega) (by simp; omega)
    refine ⟨h', v', ?_, ?_, b3, by omega, fun q hq => (b5 q hq).trans (hkeep q hq)⟩
    · refine loopX_round (by simp [keepF, fget]) ?_
      generalize loopX (codeL (callX C) l17_0) [0, 3, 4] = L at b1 ⊢
      simp [l17_0, bodyX, codeL, opsE, stepE, isCall, calleeE, opE, wantE, odE, odS, odL, odSL, fget, fput, initE, keepF, binE, intOp, strOp, unE, eqpE, eqnE, neqB, ressE, resE, packL, packE, flat1, fcells, fillE, setL, cellsOf, lenE_sl, lenE_nils, lenE_sl0, bound, drawE_nil, traceE, slotsG, slotsE, odT, odsT, optT, partsT, rep, List.getElem?_cons_zero, List.getElem?_cons_succ, get_len, get_len_add, get_len1, get_len2, get_len_add1, get_len_add2, last_ok s, hlt, elems, a1, w1, b1]
    · rw [List.range_succ_eq_map, List.map_cons, List.map_map]
      have e : (fun x : Nat => k + (x : Int)) ∘ Nat.succ = fun x : Nat => k + 1 + (x : Int) := by
        funext x; simp; omega
      rw [e]
      simpa using b2

theorem closed_ok {h : LH} {i j : Nat} {first : Int} {t : List Bool} (s : St h i j first t) :
    ∃ v h', callX C 17 [.s (.ptr i 0)] h = some (v, h') ∧ ∃ w, v = .s w ∧ Ints h' w ((List.range (t.length - 1)).map fun (x : Nat) => first + (x : Int)) ∧ St h' i j first t ∧ h.length ≤ h'.length ∧ ∀ q, q < h.length → h'[q]? = h[q]? := by
  obtain ⟨p, h1⟩ := s.obj
  obtain ⟨vs, h2, h3⟩ := s.arr
  have hlen := s.len
  have hf := s.fr
  obtain ⟨h', v', b1, b2, b3, b4, b5⟩ := closed_loop (i := i) (j := j) (first := first) (t := t) h.length (t.length - 1) h .nils [] first s (.inl ⟨rfl, rfl⟩) (Nat.le_refl _) (lt_of_some h1) (lt_of_some h2) (fun q p n e => by cases e) (by omega) (by omega) (by simp; omega)
  refine callX_exv (e := e17) rfl (by simp [e17]) ?_
  refine ⟨.s v', h', ?_, v', rfl, by simpa using b2, b3, b4, b5⟩
  simp [e17, b17, bodyX, codeL, opsE, stepE, isCall, calleeE, opE, wantE, odE, odS, odL, odSL, fget, fput, initE, keepF, binE, intOp, strOp, unE, eqpE, eqnE, neqB, ressE, resE, packL, packE, flat1, fcells, fillE, setL, cellsOf, lenE_sl, lenE_nils, lenE_sl0, bound, drawE_nil, traceE, slotsG, slotsE, odT, odsT, optT, partsT, rep, List.getElem?_cons_zero, List.getElem?_cons_succ, get_len, get_len_add, get_len1, get_len2, get_len_add1, get_len_add2, h1, b1, -getElem?_pos]

theorem wakes_ok (h : LH) : ∃ h', callX C 19 [] h = some (.s (.bool true), h') ∧ h.length ≤ h'.length ∧ ∀ q, q < h.length → h'[q]? = h[q]? := by
  refine callX_ex (e := e19) rfl (by simp [e19]) ?_
  have s : St (h ++ [LO.own 4 [.bool false], LO.own 67 [.int .i64 7, .sl h.length 0 0 1]]) (h.length + 1) h.length 7 [false] :=
    ⟨by omega, by simp, ⟨0, by rw [get_len_add]; simp⟩, ⟨[.bool false], by rw [get_len], by simp⟩⟩
  simp [e19, b19, bodyX, codeL, opsE, stepE, isCall, calleeE, opE, wantE, odE, odS, odL, odSL, fget, fput, initE, keepF, binE, intOp, strOp, unE, eqpE, eqnE, neqB, ressE, resE, packL, packE, flat1, fcells, fillE, setL, cellsOf, lenE_sl, lenE_nils, lenE_sl0, bound, drawE_nil, traceE, slotsG, slotsE, odT, odsT, optT, partsT, rep, List.getElem?_cons_zero, List.getElem?_cons_succ, get_len, get_len_add, get_len1, get_len2, get_len_add1, get_len_add2, new_ok 7 (by omega), open_yes s (by simp)]
  exact fun q hq => get_app hq

end C8
end Go.Proofs.Ytaafbpniakldpaa.Ev
