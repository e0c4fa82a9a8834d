/- The document's Status on the small machine, clones, and comparisons. -/
import Derived.Test.YtaafbpniakldpaaStatLem
set_option linter.unusedSimpArgs false
set_option linter.unusedVariables false
namespace Go.Proofs.Ytaafbpniakldpaa.Ev.C8
open Go

theorem period_ok (p : Int) (h : LH) : callX C 20 [.s (.int .i64 p)] h = some (.s (.bool (decide (0 ≤ p ∧ p ≤ 399))), h) := by
  refine callX_intro (e := e20) rfl (by simp [e20]) ?_
  by_cases h0 : p ≥ 0
  · simp [e20, b20, bodyX, codeL, opsE, stepE, isCall, calleeE, opE, wantE, odE, odS, odL, odSL, fget, fput, initE, keepF, binE, intOp, strOp, unE, eqpE, eqnE, neqB, ressE, resE, packL, packE, flat1, fcells, fillE, setL, cellsOf, lenE_sl, lenE_nils, lenE_sl0, bound, drawE_nil, traceE, slotsG, slotsE, odT, odsT, optT, partsT, rep, List.getElem?_cons_zero, List.getElem?_cons_succ, get_len, get_len_add, get_len1, get_len2, get_len_add1, get_len_add2, h0]
  · simp [e20, b20, bodyX, codeL, opsE, stepE, isCall, calleeE, opE, wantE, odE, odS, odL, odSL, fget, fput, initE, keepF, binE, intOp, strOp, unE, eqpE, eqnE, neqB, ressE, resE, packL, packE, flat1, fcells, fillE, setL, cellsOf, lenE_sl, lenE_nils, lenE_sl0, bound, drawE_nil, traceE, slotsG, slotsE, odT, odsT, optT, partsT, rep, List.getElem?_cons_zero, List.getElem?_cons_succ, get_len, get_len_add, get_len1, get_len2, get_len_add1, get_len_add2, h0]
theorem period_yes {p : Int} (hp : 0 ≤ p ∧ p ≤ 399) (h : LH) : callX C 20 [.s (.int .i64 p)] h = some (.s (.bool true), h) := by
  rw [period_ok, decide_eq_true hp]
theorem period_no {p : Int} (hp : ¬ (0 ≤ p ∧ p ≤ 399)) (h : LH) : callX C 20 [.s (.int .i64 p)] h = some (.s (.bool false), h) := by
  rw [period_ok, decide_eq_false hp]
theorem rnew_ok (p : Int) (h : LH) : callX C 21 [.s (.int .i64 p)] h = some (.s (.ptr (h.length + 1) 0), h ++ [.own 4 [.bool false], .own 70 [.int .i64 p, .int .i64 p, .sl h.length 0 0 1]]) := by
  refine callX_intro (e := e21) rfl (by simp [e21]) ?_
  simp [e21, b21, bodyX, codeL, opsE, stepE, isCall, calleeE, opE, wantE, odE, odS, odL, odSL, fget, fput, initE, keepF, binE, intOp, strOp, unE, eqpE, eqnE, neqB, ressE, resE, packL, packE, flat1, fcells, fillE, setL, cellsOf, lenE_sl, lenE_nils, lenE_sl0, bound, drawE_nil, traceE, slotsG, slotsE, odT, odsT, optT, partsT, rep, List.getElem?_cons_zero, List.getElem?_cons_succ, get_len, get_len_add, get_len1, get_len2, get_len_add1, get_len_add2]

/-- The document's Status: its object, the object of what was touched. -/
structure RS (h : LH) (i j : Nat) (first : Int) (t : List Bool) : Prop where
  fr : 0 ≤ first ∧ first ≤ 399
  len : 1 ≤ t.length ∧ first + t.length ≤ 401
  obj : ∃ p, h[i]? = some (.own 70 [.int .i64 first, .int .i64 (first + t.length - 1), .sl j p 0 t.length])
  arr : ∃ vs, h[j]? = some (.own 4 vs) ∧ vs.take t.length = t.map .bool

theorem RS.ne {h : LH} {i j : Nat} {first : Int} {t : List Bool} (s : RS h i j first t) : i ≠ j := by
  rintro rfl
  obtain ⟨p, h1⟩ := s.obj
  obtain ⟨vs, h2, _⟩ := s.arr
  rw [h1] at h2
  cases h2

theorem RS.le {h : LH} {i j : Nat} {first : Int} {t : List Bool} (s : RS h i j first t) {vs : List SV} (hj : h[j]? = some (.own 4 vs)) : t.length ≤ vs.length := by
  obtain ⟨vs', h2, h3⟩ := s.arr
  rw [hj] at h2
  cases h2
  have := congrArg List.length h3
  simp only [List.length_take, List.length_map] at this
  omega

theorem RS.keep {h h' : LH} {i j : Nat} {first : Int} {t : List Bool} (s : RS h i j first t) (hi : h'[i]? = h[i]?) (hj : h'[j]? = h[j]?) : RS h' i j first t :=
  ⟨s.fr, s.len, by rw [hi]; exact s.obj, by rw [hj]; exact s.arr⟩

theorem RS.bit {h : LH} {i j : Nat} {first : Int} {t : List Bool} (s : RS h i j first t) {vs : List SV} (hj : h[j]? = some (.own 4 vs)) {k : Nat} (hk : k < t.length) : vs[k]? = some (.bool t[k]) := by
  obtain ⟨vs', h2, h3⟩ := s.arr
  rw [hj] at h2
  cases h2
  have := congrArg (fun l => l[k]?) h3
  simp only [List.getElem?_take_of_lt hk, List.getElem?_map, List.getElem?_eq_getElem hk] at this
  exact this

theorem ropen_yes {h : LH} {i j : Nat} {first : Int} {t : List Bool} (s : RS h i j first t) (hp : first + t.length ≤ 400) : callX C 26 [.s (.ptr i 0)] h = some (.tup [.s (.int .i64 (first + t.length - 1)), .s (.bool true)], h) := by
  obtain ⟨p, h1⟩ := s.obj
  have hf := s.fr
  have hl := s.len
  have h2 : 0 ≤ first + (t.length : Int) - 1 ∧ first + (t.length : Int) - 1 ≤ 399 := by omega
  refine callX_intro (e := e26) rfl (by simp [e26]) ?_
  generalize first + (t.length : Int) - 1 = q at h1 h2 ⊢
  simp [e26, b26, bodyX, codeL, opsE, stepE, isCall, calleeE, opE, wantE, odE, odS, odL, odSL, fget, fput, initE, keepF, binE, intOp, strOp, unE, eqpE, eqnE, neqB, ressE, resE, packL, packE, flat1, fcells, fillE, setL, cellsOf, lenE_sl, lenE_nils, lenE_sl0, bound, drawE_nil, traceE, slotsG, slotsE, odT, odsT, optT, partsT, rep, List.getElem?_cons_zero, List.getElem?_cons_succ, get_len, get_len_add, get_len1, get_len2, get_len_add1, get_len_add2, h1, period_yes h2, -getElem?_pos]

theorem ropen_no {h : LH} {i j : Nat} {first : Int} {t : List Bool} (s : RS h i j first t) (hp : first + t.length = 401) : callX C 26 [.s (.ptr i 0)] h = some (.tup [.s (.int .i64 0), .s (.bool false)], h) := by
  obtain ⟨p, h1⟩ := s.obj
  have h2 : ¬ (0 ≤ first + (t.length : Int) - 1 ∧ first + (t.length : Int) - 1 ≤ 399) := by omega
  refine callX_intro (e := e26) rfl (by simp [e26]) ?_
  generalize first + (t.length : Int) - 1 = q at h1 h2 ⊢
  simp [e26, b26, bodyX, codeL, opsE, stepE, isCall, calleeE, opE, wantE, odE, odS, odL, odSL, fget, fput, initE, keepF, binE, intOp, strOp, unE, eqpE, eqnE, neqB, ressE, resE, packL, packE, flat1, fcells, fillE, setL, cellsOf, lenE_sl, lenE_nils, lenE_sl0, bound, drawE_nil, traceE, slotsG, slotsE, odT, odsT, optT, partsT, rep, List.getElem?_cons_zero, List.getElem?_cons_succ, get_len, get_len_add, get_len1, get_len2, get_len_add1, get_len_add2, h1, period_no h2, -getElem?_pos]

theorem rclose_no {h : LH} {i j : Nat} {first : Int} {t : List Bool} (s : RS h i j first t) (hp : first + t.length = 401) : callX C 22 [.s (.ptr i 0)] h = some (.s (.int .i64 8), h) := by
  obtain ⟨p, h1⟩ := s.obj
  have h2 : ¬ (0 ≤ first + (t.length : Int) - 1 ∧ first + (t.length : Int) - 1 ≤ 399) := by omega
  refine callX_intro (e := e22) rfl (by simp [e22]) ?_
  generalize first + (t.length : Int) - 1 = q at h1 h2 ⊢
  simp [e22, b22, bodyX, codeL, opsE, stepE, isCall, calleeE, opE, wantE, odE, odS, odL, odSL, fget, fput, initE, keepF, binE, intOp, strOp, unE, eqpE, eqnE, neqB, ressE, resE, packL, packE, flat1, fcells, fillE, setL, cellsOf, lenE_sl, lenE_nils, lenE_sl0, bound, drawE_nil, traceE, slotsG, slotsE, odT, odsT, optT, partsT, rep, List.getElem?_cons_zero, List.getElem?_cons_succ, get_len, get_len_add, get_len1, get_len2, get_len_add1, get_len_add2, h1, period_no h2, -getElem?_pos]

theorem rtouch_no {h : LH} {i j : Nat} {first : Int} {t : List Bool} (s : RS h i j first t) (hp : first + t.length = 401) : callX C 24 [.s (.ptr i 0)] h = some (.s (.int .i64 8), h) := by
  obtain ⟨p, h1⟩ := s.obj
  have h2 : ¬ (0 ≤ first + (t.length : Int) - 1 ∧ first + (t.length : Int) - 1 ≤ 399) := by omega
  refine callX_intro (e := e24) rfl (by simp [e24]) ?_
  generalize first + (t.length : Int) - 1 = q at h1 h2 ⊢
  simp [e24, b24, bodyX, codeL, opsE, stepE, isCall, calleeE, opE, wantE, odE, odS, odL, odSL, fget, fput, initE, keepF, binE, intOp, strOp, unE, eqpE, eqnE, neqB, ressE, resE, packL, packE, flat1, fcells, fillE, setL, cellsOf, lenE_sl, lenE_nils, lenE_sl0, bound, drawE_nil, traceE, slotsG, slotsE, odT, odsT, optT, partsT, rep, List.getElem?_cons_zero, List.getElem?_cons_succ, get_len, get_len_add, get_len1, get_len2, get_len_add1, get_len_add2, h1, period_no h2, -getElem?_pos]

theorem rclose_yes {h : LH} {i j : Nat} {first : Int} {t : List Bool} (s : RS h i j first t) (hp : first + t.length ≤ 400) :
    ∃ h', callX C 22 [.s (.ptr i 0)] h = some (.s (.int .i64 0), h') ∧ RS h' i (h.length + 1) first (t ++ [false]) ∧ h.length ≤ h'.length ∧ ∀ k, k < h.length → k ≠ i → k ≠ j → h'[k]? = h[k]? := by
  obtain ⟨p, h1⟩ := s.obj
  obtain ⟨vs, h2, h3⟩ := s.arr
  have hle := s.le h2
  have hi := lt_of_some h1
  have hj := lt_of_some h2
  have hne := s.ne
  have hl := s.len
  have hf := s.fr
  have h4 : 0 ≤ first + (t.length : Int) - 1 ∧ first + (t.length : Int) - 1 ≤ 399 := by omega
  have w1 : IntKind.i64.wrap (first + (t.length : Int) - 1 + 1) = first + (t.length : Int) := by rw [wrap_small (by omega) (by omega)]; omega
  generalize hq : first + (t.length : Int) - 1 = q at h1 h4 w1
  refine callX_ex (e := e22) rfl (by simp [e22]) ?_
  have hA := appE_own (h := h.set i (.own 70 [.int .i64 first, .int .i64 (first + t.length), .sl j p 0 t.length]) ++ [LO.own 4 [SV.bool false]]) (t := 4) (z := 1) (y := 1) (i := j) (p := p) (o := 0) (m := t.length) (n := 1) (new := [SV.bool false]) (by rw [get_app1 hj, get_ne hne]; exact h2) (by omega) (by omega) (by omega)
  simp [e22, b22, bodyX, codeL, opsE, stepE, isCall, calleeE, opE, wantE, odE, odS, odL, odSL, fget, fput, initE, keepF, binE, intOp, strOp, unE, eqpE, eqnE, neqB, ressE, resE, packL, packE, flat1, fcells, fillE, setL, cellsOf, lenE_sl, lenE_nils, lenE_sl0, bound, drawE_nil, traceE, slotsG, slotsE, odT, odsT, optT, partsT, rep, List.getElem?_cons_zero, List.getElem?_cons_succ, get_len, get_len_add, get_len1, get_len2, get_len_add1, get_len_add2, h1, h2, period_yes h4, w1, elems, hA, get_app hi, get_app hj, set_app hi, set_app hj, get_app1 hi, set_app1 hi, set_app1 hj, get_app2 hi, set_app2 hi, get_ne hne, get_ne (Ne.symm hne), get_self hi, get_self1 hi, -getElem?_pos]
  refine ⟨⟨hf, by simp; omega, ⟨0, ?_⟩, ⟨List.take t.length vs ++ [SV.bool false], ?_, ?_⟩⟩, fun k hk hki hkj => ?_⟩
  · rw [get_app3 hi, get_self2 hi]; simp; omega
  · rw [get_len_add3]; rfl
  · have : (List.take t.length vs ++ [SV.bool false]).length = t.length + 1 := by simp; omega
    rw [List.length_append, List.length_singleton, ← this, List.take_length, h3]; simp
  · rw [get_app3 hk, get_ne (Ne.symm hki), get_ne (Ne.symm hkj), get_ne (Ne.symm hki)]

theorem rtouch_yes {h : LH} {i j : Nat} {first : Int} {t : List Bool} (s : RS h i j first t) (hp : first + t.length ≤ 400) :
    ∃ h', callX C 24 [.s (.ptr i 0)] h = some (.s (.int .i64 0), h') ∧ RS h' i j first (t.set (t.length - 1) true) ∧ h.length ≤ h'.length ∧ ∀ k, k ≠ j → h'[k]? = h[k]? := by
  obtain ⟨p, h1⟩ := s.obj
  obtain ⟨vs, h2, h3⟩ := s.arr
  have hle := s.le h2
  have hi := lt_of_some h1
  have hj := lt_of_some h2
  have hne := s.ne
  have hl := s.len
  have hf := s.fr
  have h4 : 0 ≤ first + (t.length : Int) - 1 ∧ first + (t.length : Int) - 1 ≤ 399 := by omega
  have w1 : IntKind.i64.wrap ((t.length : Int) - 1) = (t.length : Int) - 1 := wrap_small (by omega) (by omega)
  have w2 : 0 ≤ (t.length : Int) - 1 := by omega
  have w2' : 1 ≤ (t.length : Int) := by omega
  have w3 : (t.length : Int) - 1 < t.length := by omega
  have w4 : ((t.length : Int) - 1).toNat = t.length - 1 := by omega
  have w5 : t.length - 1 + 1 ≤ vs.length := by omega
  generalize hq : first + (t.length : Int) - 1 = q at h1 h4
  refine callX_ex (e := e24) rfl (by simp [e24]) ?_
  simp [e24, b24, bodyX, codeL, opsE, stepE, isCall, calleeE, opE, wantE, odE, odS, odL, odSL, fget, fput, initE, keepF, binE, intOp, strOp, unE, eqpE, eqnE, neqB, ressE, resE, packL, packE, flat1, fcells, fillE, setL, cellsOf, lenE_sl, lenE_nils, lenE_sl0, bound, drawE_nil, traceE, slotsG, slotsE, odT, odsT, optT, partsT, rep, List.getElem?_cons_zero, List.getElem?_cons_succ, get_len, get_len_add, get_len1, get_len2, get_len_add1, get_len_add2, h1, h2, period_yes h4, w1, w2, w2', w3, w4, w5, -getElem?_pos]
  refine ⟨⟨hf, by simp; omega, ⟨p, ?_⟩, ⟨_, get_self hj, ?_⟩⟩, fun k hk => get_ne (Ne.symm hk)⟩
  · rw [get_ne (Ne.symm hne), h1]; simp; omega
  · rw [List.length_set, List.take_set, h3, List.map_set]

theorem rreopen_none {h : LH} {i j : Nat} {first : Int} {t : List Bool} (s : RS h i j first t) (hp : t.length = 1) : callX C 23 [.s (.ptr i 0)] h = some (.s (.int .i64 3), h) := by
  obtain ⟨p, h1⟩ := s.obj
  rw [hp] at h1
  have e : first + ((1 : Nat) : Int) - 1 = first := by omega
  rw [e] at h1
  refine callX_intro (e := e23) rfl (by simp [e23]) ?_
  simp [e23, b23, bodyX, codeL, opsE, stepE, isCall, calleeE, opE, wantE, odE, odS, odL, odSL, fget, fput, initE, keepF, binE, intOp, strOp, unE, eqpE, eqnE, neqB, ressE, resE, packL, packE, flat1, fcells, fillE, setL, cellsOf, lenE_sl, lenE_nils, lenE_sl0, bound, drawE_nil, traceE, slotsG, slotsE, odT, odsT, optT, partsT, rep, List.getElem?_cons_zero, List.getElem?_cons_succ, get_len, get_len_add, get_len1, get_len2, get_len_add1, get_len_add2, h1, -getElem?_pos]

theorem rreopen_held {h : LH} {i j : Nat} {first : Int} {t : List Bool} (s : RS h i j first t) (hp : 2 ≤ t.length) (hb : t[t.length - 1]? = some true) : callX C 23 [.s (.ptr i 0)] h = some (.s (.int .i64 8), h) := by
  obtain ⟨p, h1⟩ := s.obj
  obtain ⟨vs, h2, h3⟩ := s.arr
  have hl := s.len
  have hf := s.fr
  have w1 : IntKind.i64.wrap ((t.length : Int) - 1) = (t.length : Int) - 1 := wrap_small (by omega) (by omega)
  have w2 : 0 ≤ (t.length : Int) - 1 := by omega
  have w2' : 1 ≤ (t.length : Int) := by omega
  have w3 : (t.length : Int) - 1 < t.length := by omega
  have w4 : ((t.length : Int) - 1).toNat = t.length - 1 := by omega
  have hb' := s.bit h2 (show t.length - 1 < t.length by omega)
  rw [List.getElem?_eq_getElem (by omega)] at hb
  rw [Option.some.inj hb] at hb'
  have hqf : (first + (t.length : Int) - 1 == first) = false := by simp; omega
  generalize first + (t.length : Int) - 1 = q at h1 hqf
  refine callX_intro (e := e23) rfl (by simp [e23]) ?_
  simp [e23, b23, bodyX, codeL, opsE, stepE, isCall, calleeE, opE, wantE, odE, odS, odL, odSL, fget, fput, initE, keepF, binE, intOp, strOp, unE, eqpE, eqnE, neqB, ressE, resE, packL, packE, flat1, fcells, fillE, setL, cellsOf, lenE_sl, lenE_nils, lenE_sl0, bound, drawE_nil, traceE, slotsG, slotsE, odT, odsT, optT, partsT, rep, List.getElem?_cons_zero, List.getElem?_cons_succ, get_len, get_len_add, get_len1, get_len2, get_len_add1, get_len_add2, h1, h2, hqf, w1, w2, w2', w3, w4, hb', -getElem?_pos]

theorem rreopen_yes {h : LH} {i j : Nat} {first : Int} {t : List Bool} (s : RS h i j first t) (hp : 2 ≤ t.length) (hb : t[t.length - 1]? = some false) :
    ∃ h', callX C 23 [.s (.ptr i 0)] h = some (.s (.int .i64 0), h') ∧ RS h' i j first (t.take (t.length - 1)) ∧ h.length ≤ h'.length ∧ ∀ k, k ≠ i → h'[k]? = h[k]? := by
  obtain ⟨p, h1⟩ := s.obj
  obtain ⟨vs, h2, h3⟩ := s.arr
  have hle := s.le h2
  have hi := lt_of_some h1
  have hj := lt_of_some h2
  have hne := s.ne
  have hl := s.len
  have hf := s.fr
  have w1 : IntKind.i64.wrap ((t.length : Int) - 1) = (t.length : Int) - 1 := wrap_small (by omega) (by omega)
  have w2 : 0 ≤ (t.length : Int) - 1 := by omega
  have w2' : 1 ≤ (t.length : Int) := by omega
  have w3 : (t.length : Int) - 1 < t.length := by omega
  have w4 : ((t.length : Int) - 1).toNat = t.length - 1 := by omega
  have w6 : t.length - 1 ≤ t.length := by omega
  have hb' := s.bit h2 (show t.length - 1 < t.length by omega)
  rw [List.getElem?_eq_getElem (by omega)] at hb
  rw [Option.some.inj hb] at hb'
  have hqf : (first + (t.length : Int) - 1 == first) = false := by simp; omega
  have w7 : IntKind.i64.wrap (first + (t.length : Int) - 1 - 1) = first + (t.length : Int) - 1 - 1 := wrap_small (by omega) (by omega)
  generalize hq : first + (t.length : Int) - 1 = q at h1 hqf w7
  refine callX_ex (e := e23) rfl (by simp [e23]) ?_
  simp [e23, b23, bodyX, codeL, opsE, stepE, isCall, calleeE, opE, wantE, odE, odS, odL, odSL, fget, fput, initE, keepF, binE, intOp, strOp, unE, eqpE, eqnE, neqB, ressE, resE, packL, packE, flat1, fcells, fillE, setL, cellsOf, lenE_sl, lenE_nils, lenE_sl0, bound, drawE_nil, traceE, slotsG, slotsE, odT, odsT, optT, partsT, rep, List.getElem?_cons_zero, List.getElem?_cons_succ, get_len, get_len_add, get_len1, get_len2, get_len_add1, get_len_add2, h1, h2, hqf, w1, w2, w2', w3, w4, hb', w6, w7, get_ne hne, get_self hi, get_self1 hi, -getElem?_pos]
  refine ⟨⟨hf, by simp; omega, ⟨p, ?_⟩, ⟨vs, ?_, ?_⟩⟩, fun k hk => ?_⟩
  · rw [get_self hi]; simp; omega
  · rw [get_ne hne, h2]
  · rw [List.length_take, Nat.min_eq_left w6]
    have := congrArg (List.take (t.length - 1)) h3
    rw [List.take_take, Nat.min_eq_left w6] at this
    rw [this, List.map_take]
  · rw [get_ne (Ne.symm hk)]

theorem rclosed_loop {i j : Nat} {first : Int} {t : List Bool} (n0 : Nat) : ∀ (m : Nat) (h : LH) (v : SV) (l : List Int) (k : Int), RS h i j first t → Ints h v l → n0 ≤ h.length → i < n0 → j < n0 → (∀ q p n, v = .sl q p 0 n → n0 ≤ q) → k + m = first + t.length - 1 → 0 ≤ k → l.length + m ≤ 1000 →
    ∃ h' v', loopX (codeL (callX C) l28_0) [0, 3, 4] [(0, some (.s (.ptr i 0))), (3, some (.s v)), (4, some (.s (.int .i64 k)))] h = some (.exit 0, [(3, some (.s v'))], h') ∧
      Ints h' v' (l ++ (List.range m).map (fun (x : Nat) => k + (x : Int))) ∧ RS h' i j first t ∧ h.length ≤ h'.length ∧ ∀ q, q < n0 → h'[q]? = h[q]? := by
  intro m
  induction m with
  | zero =>
    intro h v l k s hi hn0 hi0 hj0 hv hk hk0 hl
    refine ⟨h, v, ?_, by simpa using hi, s, Nat.le_refl _, fun _ _ => rfl⟩
    refine loopX_round (by simp [keepF, fget]) ?_
    obtain ⟨p, h1⟩ := s.obj
    have hlt : ¬ (k < first + t.length - 1) := by omega
    generalize first + (t.length : Int) - 1 = q at h1 hlt
    simp [l28_0, bodyX, codeL, opsE, stepE, isCall, calleeE, opE, wantE, odE, odS, odL, odSL, fget, fput, initE, keepF, binE, intOp, strOp, unE, eqpE, eqnE, neqB, ressE, resE, packL, packE, flat1, fcells, fillE, setL, cellsOf, lenE_sl, lenE_nils, lenE_sl0, bound, drawE_nil, traceE, slotsG, slotsE, odT, odsT, optT, partsT, rep, List.getElem?_cons_zero, List.getElem?_cons_succ, get_len, get_len_add, get_len1, get_len2, get_len_add1, get_len_add2, h1, hlt, -getElem?_pos]
  | succ m ih =>
    intro h v l k s hi hn0 hi0 hj0 hv hk hk0 hl
    have hlt : k < first + t.length - 1 := by omega
    have hlen := s.len
    have hf := s.fr
    obtain ⟨p, hp⟩ := s.obj
    have w1 : IntKind.i64.wrap (k + 1) = k + 1 := wrap_small (by omega) (by omega)
    obtain ⟨h1, a1, a2, a3, a4⟩ := hi.app (by omega) k
    have hkeep : ∀ q, q < n0 → h1[q]? = h[q]? := fun q hq => a4 q (by omega) (fun p n e => by have := hv q p n e; omega)
    have s1 : RS h1 i j first t := s.keep (hkeep i hi0) (hkeep j hj0)
    obtain ⟨h', v', b1, b2, b3, b4, b5⟩ := ih h1 _ (l ++ [k]) (k + 1) s1 (by simpa using a2) (by omega) hi0 hj0 (fun q p n e => by cases e; omega) (by omega) (by omega) (by simp; omega)
    refine ⟨h', v', ?_, ?_, b3, by omega, fun q hq => (b5 q hq).trans (hkeep q hq)⟩
    · refine loopX_round (by simp [keepF, fget]) ?_
      generalize loopX (codeL (callX C) l28_0) [0, 3, 4] = L at b1 ⊢
      generalize first + (t.length : Int) - 1 = q at hp hlt
      simp [l28_0, bodyX, codeL, opsE, stepE, isCall, calleeE, opE, wantE, odE, odS, odL, odSL, fget, fput, initE, keepF, binE, intOp, strOp, unE, eqpE, eqnE, neqB, ressE, resE, packL, packE, flat1, fcells, fillE, setL, cellsOf, lenE_sl, lenE_nils, lenE_sl0, bound, drawE_nil, traceE, slotsG, slotsE, odT, odsT, optT, partsT, rep, List.getElem?_cons_zero, List.getElem?_cons_succ, get_len, get_len_add, get_len1, get_len2, get_len_add1, get_len_add2, hp, hlt, elems, a1, w1, b1, -getElem?_pos]
    · rw [List.range_succ_eq_map, List.map_cons, List.map_map]
      have e : (fun x : Nat => k + (x : Int)) ∘ Nat.succ = fun x : Nat => k + 1 + (x : Int) := by
        funext x; simp; omega
      rw [e]
      simpa using b2

theorem rclosed_ok {h : LH} {i j : Nat} {first : Int} {t : List Bool} (s : RS h i j first t) :
    ∃ v h', callX C 28 [.s (.ptr i 0)] h = some (v, h') ∧ ∃ w, v = .s w ∧ Ints h' w ((List.range (t.length - 1)).map fun (x : Nat) => first + (x : Int)) ∧ RS h' i j first t ∧ h.length ≤ h'.length ∧ ∀ q, q < h.length → h'[q]? = h[q]? := by
  obtain ⟨p, h1⟩ := s.obj
  obtain ⟨vs, h2, h3⟩ := s.arr
  have hlen := s.len
  have hf := s.fr
  obtain ⟨h', v', b1, b2, b3, b4, b5⟩ := rclosed_loop (i := i) (j := j) (first := first) (t := t) h.length (t.length - 1) h .nils [] first s (.inl ⟨rfl, rfl⟩) (Nat.le_refl _) (lt_of_some h1) (lt_of_some h2) (fun q p n e => by cases e) (by omega) (by omega) (by simp; omega)
  refine callX_exv (e := e28) rfl (by simp [e28]) ?_
  refine ⟨.s v', h', ?_, v', rfl, by simpa using b2, b3, b4, b5⟩
  simp [e28, b28, bodyX, codeL, opsE, stepE, isCall, calleeE, opE, wantE, odE, odS, odL, odSL, fget, fput, initE, keepF, binE, intOp, strOp, unE, eqpE, eqnE, neqB, ressE, resE, packL, packE, flat1, fcells, fillE, setL, cellsOf, lenE_sl, lenE_nils, lenE_sl0, bound, drawE_nil, traceE, slotsG, slotsE, odT, odsT, optT, partsT, rep, List.getElem?_cons_zero, List.getElem?_cons_succ, get_len, get_len_add, get_len1, get_len2, get_len_add1, get_len_add2, h1, b1, -getElem?_pos]

/-- Two lists of the same numbers are the same. -/
theorem same_loop {h : LH} {a b : SV} {l : List Int} (ha : Ints h a l) (hb : Ints h b l) (hl : l.length ≤ 100000) : ∀ (m k : Nat), k + m = l.length →
    loopX (codeL (callX C) l27_0) [0, 1, 5] [(0, some (.s a)), (1, some (.s b)), (5, some (.s (.int .i64 k)))] h = some (.exit 0, [], h) := by
  intro m
  induction m with
  | zero =>
    intro k hk
    obtain rfl : k = l.length := by omega
    refine loopX_round (by simp [keepF, fget]) ?_
    simp [l27_0, bodyX, codeL, opsE, stepE, isCall, calleeE, opE, wantE, odE, odS, odL, odSL, fget, fput, initE, keepF, binE, intOp, strOp, unE, eqpE, eqnE, neqB, ressE, resE, packL, packE, flat1, fcells, fillE, setL, cellsOf, lenE_sl, lenE_nils, lenE_sl0, bound, drawE_nil, traceE, slotsG, slotsE, odT, odsT, optT, partsT, rep, List.getElem?_cons_zero, List.getElem?_cons_succ, get_len, get_len_add, get_len1, get_len2, get_len_add1, get_len_add2, ha.len]
  | succ m ih =>
    intro k hk
    have b1 := ih (k + 1) (by omega)
    simp only [Int.natCast_add, Int.natCast_one] at b1
    rcases ha with ⟨rfl, rfl⟩ | ⟨ja, pa, rfl, hja⟩
    · simp at hk
    · rcases hb with ⟨rfl, rfl⟩ | ⟨jb, pb, rfl, hjb⟩
      · simp at hk
      · have hlt : (k : Int) < l.length := by omega
        have hlt' : k < l.length := by omega
        have w1 : IntKind.i64.wrap ((k : Int) + 1) = (k : Int) + 1 := wrap_small (by omega) (by omega)
        have hr : l[k]? = some l[k] := List.getElem?_eq_getElem hlt'
        refine loopX_round (by simp [keepF, fget]) ?_
        generalize loopX (codeL (callX C) l27_0) [0, 1, 5] = L at b1 ⊢
        simp [l27_0, bodyX, codeL, opsE, stepE, isCall, calleeE, opE, wantE, odE, odS, odL, odSL, fget, fput, initE, keepF, binE, intOp, strOp, unE, eqpE, eqnE, neqB, ressE, resE, packL, packE, flat1, fcells, fillE, setL, cellsOf, lenE_sl, lenE_nils, lenE_sl0, bound, drawE_nil, traceE, slotsG, slotsE, odT, odsT, optT, partsT, rep, List.getElem?_cons_zero, List.getElem?_cons_succ, get_len, get_len_add, get_len1, get_len2, get_len_add1, get_len_add2, hlt, hlt', hja, hjb, hr, w1, b1, -getElem?_pos]

theorem same_ok {h : LH} {a b : SV} {l : List Int} (ha : Ints h a l) (hb : Ints h b l) (hl : l.length ≤ 100000) : callX C 27 [.s a, .s b] h = some (.s (.bool true), h) := by
  have b1 := same_loop ha hb hl l.length 0 (by omega)
  simp only [Int.natCast_zero] at b1
  refine callX_intro (e := e27) rfl (by simp [e27]) ?_
  simp [e27, b27, bodyX, codeL, opsE, stepE, isCall, calleeE, opE, wantE, odE, odS, odL, odSL, fget, fput, initE, keepF, binE, intOp, strOp, unE, eqpE, eqnE, neqB, ressE, resE, packL, packE, flat1, fcells, fillE, setL, cellsOf, lenE_sl, lenE_nils, lenE_sl0, bound, drawE_nil, traceE, slotsG, slotsE, odT, odsT, optT, partsT, rep, List.getElem?_cons_zero, List.getElem?_cons_succ, get_len, get_len_add, get_len1, get_len2, get_len_add1, get_len_add2, ha.len, hb.len, b1]

theorem clone40 {h : LH} {j p : Nat} {t : List Bool} {vs : List SV} (hj : h[j]? = some (.own 4 vs)) (hv : vs.take t.length = t.map .bool) (ht : 1 ≤ t.length ∧ t.length ≤ 1000) :
    callX C 40 [.s (.sl j p 0 t.length)] h = some (.s (.sl (h.length + 1) 0 0 t.length), h ++ [.dead, .own 4 (t.map .bool)]) := by
  have hlen : t.length ≤ vs.length := by
    have := congrArg List.length hv
    simp only [List.length_take, List.length_map] at this
    omega
  have hjl := lt_of_some hj
  have hE : elems (h ++ [LO.own 4 []]) 4 1 (.sl j p 0 t.length) = some (t.map .bool) := by
    obtain ⟨n, hn⟩ : ∃ n, t.length = n + 1 := ⟨t.length - 1, by omega⟩
    rw [hn] at hv hlen ⊢
    simp [elems, cellsOf, get_app hjl, hj, hv, -getElem?_pos]
    omega
  have hA := appE_own (h := h ++ [LO.own 4 []]) (t := 4) (z := 1) (y := 1) (i := h.length) (p := 0) (o := 0) (m := 0) (n := t.length) (vs := []) (new := t.map .bool) (by rw [get_len]) (by omega) (by simp) (by omega)
  refine callX_intro (e := e40) rfl (by simp [e40]) ?_
  simp [e40, b40, bodyX, codeL, opsE, stepE, isCall, calleeE, opE, wantE, odE, odS, odL, odSL, fget, fput, initE, keepF, binE, intOp, strOp, unE, eqpE, eqnE, neqB, ressE, resE, packL, packE, flat1, fcells, fillE, setL, cellsOf, lenE_sl, lenE_nils, lenE_sl0, bound, drawE_nil, traceE, slotsG, slotsE, odT, odsT, optT, partsT, rep, List.getElem?_cons_zero, List.getElem?_cons_succ, get_len, get_len_add, get_len1, get_len2, get_len_add1, get_len_add2, hE, hA, -getElem?_pos]

end Go.Proofs.Ytaafbpniakldpaa.Ev.C8
