/- StatusPlays on the small machine. -/
import Derived.Test.YtaafbpniakldpaaRefStat
import Derived.Test.YtaafbpniakldpaaStatusRow
set_option linter.unusedSimpArgs false
set_option linter.unusedVariables false
namespace Go.Proofs.Ytaafbpniakldpaa.Ev.C8
open Go

theorem clone_ok {h : LH} {i j : Nat} {first : Int} {t : List Bool} (s : St h i j first t) :
    callX C 25 [.s (.ptr i 0)] h = some (.s (.ptr (h.length + 2) 0), h ++ [.dead, .own 4 (t.map .bool), .own 67 [.int .i64 first, .sl (h.length + 1) 0 0 t.length]]) := by
  obtain ⟨p, h1⟩ := s.obj
  obtain ⟨vs, h2, h3⟩ := s.arr
  have hl := s.len
  have hf := s.fr
  have hi := lt_of_some h1
  have hc := clone40 (p := p) h2 h3 (by omega)
  refine callX_intro (e := e25) rfl (by simp [e25]) ?_
  simp [e25, b25, bodyX, codeL, opsE, stepE, isCall, calleeE, opE, wantE, odE, odS, odL, odSL, fget, fput, initE, keepF, binE, intOp, strOp, unE, eqpE, eqnE, neqB, ressE, resE, packL, packE, flat1, fcells, fillE, setL, cellsOf, lenE_sl, lenE_nils, lenE_sl0, bound, drawE_nil, traceE, slotsG, slotsE, odT, odsT, optT, partsT, rep, List.getElem?_cons_zero, List.getElem?_cons_succ, get_len, get_len_add, get_len1, get_len2, get_len_add1, get_len_add2, drawE, okPairs, okPair, h1, hc, get_app hi, -getElem?_pos]

/-- The two of them: the module's, the document's. -/
structure Two (h : LH) (i i' j j' : Nat) (first : Int) (t : List Bool) : Prop where
  s : St h i j first t
  r : RS h i' j' first t
  ne : j ≠ j'

theorem Two.far {h : LH} {i i' j j' : Nat} {first : Int} {t : List Bool} (w : Two h i i' j j' first t) : i ≠ i' ∧ i ≠ j' ∧ i' ≠ j := by
  obtain ⟨p, h1⟩ := w.s.obj
  obtain ⟨p', h1'⟩ := w.r.obj
  obtain ⟨vs, h2, _⟩ := w.s.arr
  obtain ⟨vs', h2', _⟩ := w.r.arr
  refine ⟨?_, ?_, ?_⟩
  · rintro rfl; rw [h1] at h1'; cases h1'
  · rintro rfl; rw [h1] at h2'; cases h2'
  · rintro rfl; rw [h1'] at h2; cases h2

theorem Kept.butR {h h' : LH} {i j : Nat} {first : Int} {t : List Bool} (s : RS h i j first t) (hk : ∀ q, q < h.length → q ≠ i → q ≠ j → h'[q]? = h[q]?) : Kept h h' := fun q ty vs e => by
  obtain ⟨p, h1⟩ := s.obj
  obtain ⟨us, h2, _⟩ := s.arr
  rw [hk q (lt_of_some e) (fun x => by rw [x, h1] at e; cases e) (fun x => by rw [x, h2] at e; cases e)]; exact e

theorem RS.lt {h : LH} {i j : Nat} {first : Int} {t : List Bool} (s : RS h i j first t) : i < h.length ∧ j < h.length := by
  obtain ⟨p, h1⟩ := s.obj
  obtain ⟨vs, h2, _⟩ := s.arr
  exact ⟨lt_of_some h1, lt_of_some h2⟩
theorem St.lt {h : LH} {i j : Nat} {first : Int} {t : List Bool} (s : St h i j first t) : i < h.length ∧ j < h.length := by
  obtain ⟨p, h1⟩ := s.obj
  obtain ⟨vs, h2, _⟩ := s.arr
  exact ⟨lt_of_some h1, lt_of_some h2⟩

theorem two_act {h : LH} {i i' j j' : Nat} {first : Int} {t : List Bool} (w : Two h i i' j j' first t) (ht : t.length ≤ 400) (g g' : Nat) (hg : g = 15 ∧ g' = 22 ∨ g = 18 ∧ g' = 23 ∨ g = 16 ∧ g' = 24) :
    ∃ (f : Int) (h1 h2 : LH) (k k' : Nat) (t' : List Bool), callX C g [.s (.ptr i 0)] h = some (.s (.int .i64 f), h1) ∧ callX C g' [.s (.ptr i' 0)] h1 = some (.s (.int .i64 f), h2) ∧ Two h2 i i' k k' first t' ∧ Kept h h2 ∧ t'.length ≤ t.length + 1 := by
  have hs := w.s.len
  obtain ⟨n1, n2, n3⟩ := w.far
  obtain ⟨l1, l2⟩ := w.s.lt
  obtain ⟨l3, l4⟩ := w.r.lt
  rcases hg with ⟨rfl, rfl⟩ | ⟨rfl, rfl⟩ | ⟨rfl, rfl⟩
  · by_cases hp : first + t.length ≤ 400
    · obtain ⟨h1, q1, q2, q3, q4⟩ := close_yes w.s hp
      have r1 : RS h1 i' j' first t := w.r.keep (q4 _ l3 (Ne.symm n1) n3) (q4 _ l4 (Ne.symm n2) (Ne.symm w.ne))
      obtain ⟨h2, p1, p2, p3, p4⟩ := rclose_yes r1 hp
      obtain ⟨m1, m2⟩ := q2.lt
      have s2 : St h2 i (h.length + 1) first (t ++ [false]) := q2.keep (p4 _ m1 n1 n2) (p4 _ m2 (by omega) (by omega))
      exact ⟨0, h1, h2, _, _, _, q1, p1, ⟨s2, p2, by omega⟩, (Kept.but w.s q4).trans (Kept.butR r1 p4), by simp⟩
    · exact ⟨8, h, h, j, j', t, close_no w.s (by omega), rclose_no w.r (by omega), w, Kept.refl _, by omega⟩
  · by_cases h1 : t.length = 1
    · exact ⟨3, h, h, j, j', t, reopen_none w.s h1, rreopen_none w.r h1, w, Kept.refl _, by omega⟩
    · have hb : t[t.length - 1]? = some true ∨ t[t.length - 1]? = some false := by
        rw [List.getElem?_eq_getElem (by omega)]
        cases t[t.length - 1] <;> simp
      rcases hb with hb | hb
      · exact ⟨8, h, h, j, j', t, reopen_held w.s (by omega) hb, rreopen_held w.r (by omega) hb, w, Kept.refl _, by omega⟩
      · obtain ⟨h1, q1, q2, q3, q4⟩ := reopen_yes w.s (by omega) hb
        have r1 : RS h1 i' j' first t := w.r.keep (q4 _ (Ne.symm n1)) (q4 _ (Ne.symm n2))
        obtain ⟨h2, p1, p2, p3, p4⟩ := rreopen_yes r1 (by omega) hb
        have s2 : St h2 i j first (t.take (t.length - 1)) := q2.keep (p4 _ n1) (p4 _ (Ne.symm n3))
        exact ⟨0, h1, h2, _, _, _, q1, p1, ⟨s2, p2, w.ne⟩, (Kept.but w.s (fun q _ hq _ => q4 q hq)).trans (Kept.butR r1 (fun q _ hq _ => p4 q hq)), by simp; omega⟩
  · by_cases hp : first + t.length ≤ 400
    · obtain ⟨h1, q1, q2, q3, q4⟩ := touch_yes w.s hp
      have r1 : RS h1 i' j' first t := w.r.keep (q4 _ n3) (q4 _ (Ne.symm w.ne))
      obtain ⟨h2, p1, p2, p3, p4⟩ := rtouch_yes r1 hp
      have s2 : St h2 i j first (t.set (t.length - 1) true) := q2.keep (p4 _ n2) (p4 _ w.ne)
      exact ⟨0, h1, h2, _, _, _, q1, p1, ⟨s2, p2, w.ne⟩, (Kept.but w.s (fun q _ _ hq => q4 q hq)).trans (Kept.butR r1 (fun q _ _ hq => p4 q hq)), by simp⟩
    · exact ⟨8, h, h, j, j', t, touch_no w.s (by omega), rtouch_no w.r (by omega), w, Kept.refl _, by omega⟩

theorem clone_act {h : LH} {i i' j j' : Nat} {first : Int} {t : List Bool} (w : Two h i i' j j' first t) :
    ∃ (f1 f2 : Int) (hc h1 h2 : LH) (c : Nat), callX C 25 [.s (.ptr i 0)] h = some (.s (.ptr c 0), hc) ∧ callX C 16 [.s (.ptr c 0)] hc = some (.s (.int .i64 f1), h1) ∧ callX C 15 [.s (.ptr c 0)] h1 = some (.s (.int .i64 f2), h2) ∧ Two h2 i i' j j' first t ∧ Kept h h2 := by
  have hs := w.s.len
  obtain ⟨l1, l2⟩ := w.s.lt
  obtain ⟨l3, l4⟩ := w.r.lt
  have hcl := clone_ok w.s
  generalize hhc : h ++ [LO.dead, .own 4 (t.map .bool), .own 67 [.int .i64 first, .sl (h.length + 1) 0 0 t.length]] = hc at hcl
  have old : ∀ q, q < h.length → hc[q]? = h[q]? := fun q hq => by rw [← hhc]; exact get_app hq
  have hlc : hc.length = h.length + 3 := by rw [← hhc]; simp
  have sc : St hc (h.length + 2) (h.length + 1) first t := by
    refine ⟨w.s.fr, w.s.len, ⟨0, ?_⟩, ⟨t.map .bool, ?_, ?_⟩⟩
    · rw [← hhc, get_len_add]; rfl
    · rw [← hhc, get_len_add]; rfl
    · rw [← List.length_map (f := SV.bool), List.take_length]
  by_cases hp : first + t.length ≤ 400
  · obtain ⟨h1, q1, q2, q3, q4⟩ := touch_yes sc hp
    obtain ⟨h2, p1, p2, p3, p4⟩ := close_yes q2 (by simp; omega)
    have old2 : ∀ q, q < h.length → h2[q]? = h[q]? := fun q hq => by
      rw [p4 q (by omega) (by omega) (by omega), q4 q (by omega), old q hq]
    exact ⟨0, 0, hc, h1, h2, _, hcl, q1, p1, ⟨w.s.keep (old2 _ l1) (old2 _ l2), w.r.keep (old2 _ l3) (old2 _ l4), w.ne⟩, Kept.of old2⟩
  · exact ⟨8, 8, hc, hc, hc, _, hcl, touch_no sc (by omega), close_no sc (by omega), ⟨w.s.keep (old _ l1) (old _ l2), w.r.keep (old _ l3) (old _ l4), w.ne⟩, Kept.of old⟩

/-- What is told of both, and that it is the same. -/
theorem two_told {h : LH} {i i' j j' : Nat} {first : Int} {t : List Bool} (w : Two h i i' j j' first t) (ht : t.length ≤ 400) :
    ∃ (p : Int) (o : Bool) (h1 h2 : LH) (a b : SV), callX C 14 [.s (.ptr i 0)] h = some (.tup [.s (.int .i64 p), .s (.bool o)], h) ∧ callX C 26 [.s (.ptr i' 0)] h = some (.tup [.s (.int .i64 p), .s (.bool o)], h) ∧
      callX C 17 [.s (.ptr i 0)] h = some (.s a, h1) ∧ callX C 28 [.s (.ptr i' 0)] h1 = some (.s b, h2) ∧ callX C 27 [.s a, .s b] h2 = some (.s (.bool true), h2) ∧ Two h2 i i' j j' first t ∧ Kept h h2 := by
  have hs := w.s.len
  obtain ⟨l1, l2⟩ := w.s.lt
  obtain ⟨l3, l4⟩ := w.r.lt
  obtain ⟨v, h1, c1, a, rfl, c2, c3, c4, c5⟩ := closed_ok w.s
  have r1 : RS h1 i' j' first t := w.r.keep (c5 _ l3) (c5 _ l4)
  obtain ⟨v', h2, d1, b, rfl, d2, d3, d4, d5⟩ := rclosed_ok r1
  have a2 : Ints h2 a ((List.range (t.length - 1)).map fun (x : Nat) => first + (x : Int)) := by
    rcases c2 with x | ⟨q, p, x, y⟩
    · exact .inl x
    · exact .inr ⟨q, p, x, by rw [d5 _ (lt_of_some y)]; exact y⟩
  have hsame := same_ok a2 d2 (by simp; omega)
  obtain ⟨m1, m2⟩ := c3.lt
  have two : Two h2 i i' j j' first t := ⟨c3.keep (d5 _ m1) (d5 _ m2), d3, w.ne⟩
  have kept : Kept h h2 := (Kept.of c5).trans (Kept.of d5)
  by_cases hp : first + t.length ≤ 400
  · exact ⟨_, true, h1, h2, a, b, open_yes w.s hp, ropen_yes w.r hp, c1, d1, hsame, two, kept⟩
  · exact ⟨_, false, h1, h2, a, b, open_no w.s (by omega), ropen_no w.r (by omega), c1, d1, hsame, two, kept⟩

set_option maxHeartbeats 4000000 in
theorem plays_loop {first : Int} {i i' : Nat} {av : SV} {zs : List Int} : ∀ (m : Nat) (h : LH) (j j' : Nat) (t : List Bool) (c : Nat), Two h i i' j j' first t → IntA h 3 av zs → t.length ≤ c + 1 → c + m = 30 →
    ∃ h', loopX (codeL (callX C) l6_0) [1, 5, 7, 8] [(1, some (.s av)), (5, some (.s (.ptr i 0))), (7, some (.s (.ptr i' 0))), (8, some (.s (.int .i64 c)))] h = some (.exit 0, [], h') := by
  intro m
  induction m with
  | zero =>
    intro h j j' t c w ha hl hc
    obtain rfl : c = 30 := by omega
    have hlen := IntA_len ha
    refine ⟨h, loopX_round (by simp [keepF, fget]) ?_⟩
    by_cases h1 : (30 : Int) < zs.length
    · simp [l6_0, bodyX, codeL, opsE, stepE, isCall, calleeE, opE, wantE, odE, odS, odL, odSL, fget, fput, initE, keepF, binE, intOp, strOp, unE, eqpE, eqnE, neqB, ressE, resE, packL, packE, flat1, fcells, fillE, setL, cellsOf, lenE_sl, lenE_nils, lenE_sl0, bound, drawE_nil, traceE, slotsG, slotsE, odT, odsT, optT, partsT, rep, List.getElem?_cons_zero, List.getElem?_cons_succ, get_len, get_len_add, get_len1, get_len2, get_len_add1, get_len_add2, hlen, h1]
    · simp [l6_0, bodyX, codeL, opsE, stepE, isCall, calleeE, opE, wantE, odE, odS, odL, odSL, fget, fput, initE, keepF, binE, intOp, strOp, unE, eqpE, eqnE, neqB, ressE, resE, packL, packE, flat1, fcells, fillE, setL, cellsOf, lenE_sl, lenE_nils, lenE_sl0, bound, drawE_nil, traceE, slotsG, slotsE, odT, odsT, optT, partsT, rep, List.getElem?_cons_zero, List.getElem?_cons_succ, get_len, get_len_add, get_len1, get_len2, get_len_add1, get_len_add2, hlen, h1]
  | succ m ih =>
    intro h j j' t c w ha hl hc
    have hlen := IntA_len ha
    by_cases hcz : c < zs.length
    · have k1 : (c : Int) < zs.length := by omega
      have k2 : (c : Int) < 30 := by omega
      obtain ⟨ja, rfl, hja⟩ : ∃ ja, av = .sl ja 0 0 zs.length ∧ h[ja]? = some (.ro 3 (zs.map (.int .i64))) := by
        rcases ha with ⟨_, rfl⟩ | x
        · simp at hcz
        · exact x
      have hget : (zs.map (SV.int .i64))[c]? = some (.int .i64 zs[c]) := by simp [hcz]
      have hwi := within_ok zs[c] 6 (by omega) h
      have hmod : 0 ≤ zs[c] % 6 ∧ zs[c] % 6 < 6 := by omega
      have w5 : IntKind.i64.wrap ((c : Int) + 1) = (c : Int) + 1 := wrap_small (by omega) (by omega)
      generalize hr : zs[c] % 6 = r at hwi hmod
      have hr6 : r = 0 ∨ r = 1 ∨ r = 2 ∨ r = 3 ∨ r = 4 ∨ r = 5 := by omega
      have act : ∀ g g', (g = 15 ∧ g' = 22 ∨ g = 18 ∧ g' = 23 ∨ g = 16 ∧ g' = 24) → ∃ (f : Int) (h1 h2 h3 h4 h' : LH) (p : Int) (o : Bool) (a b : SV), callX C g [.s (.ptr i 0)] h = some (.s (.int .i64 f), h1) ∧ callX C g' [.s (.ptr i' 0)] h1 = some (.s (.int .i64 f), h2) ∧
          callX C 14 [.s (.ptr i 0)] h2 = some (.tup [.s (.int .i64 p), .s (.bool o)], h2) ∧ callX C 26 [.s (.ptr i' 0)] h2 = some (.tup [.s (.int .i64 p), .s (.bool o)], h2) ∧
          callX C 17 [.s (.ptr i 0)] h2 = some (.s a, h3) ∧ callX C 28 [.s (.ptr i' 0)] h3 = some (.s b, h4) ∧ callX C 27 [.s a, .s b] h4 = some (.s (.bool true), h4) ∧
          loopX (codeL (callX C) l6_0) [1, 5, 7, 8] [(1, some (.s (.sl ja 0 0 zs.length))), (5, some (.s (.ptr i 0))), (7, some (.s (.ptr i' 0))), (8, some (.s (.int .i64 ((c : Int) + 1))))] h4 = some (.exit 0, [], h') := by
        intro g g' hg
        obtain ⟨f, h1, h2, k, k', t', a1, a2, a3, a4, a5⟩ := two_act w (by omega) g g' hg
        obtain ⟨p, o, h3, h4, a, b, b1, b2, b3, b4, b5, b6, b7⟩ := two_told a3 (by omega)
        obtain ⟨h', c1⟩ := ih h4 k k' t' (c + 1) b6 (IntA_kept ha (a4.trans b7)) (by omega) (by omega)
        exact ⟨f, h1, h2, h3, h4, h', p, o, a, b, a1, a2, b1, b2, b3, b4, b5, by simpa using c1⟩
      rcases hr6 with rfl | rfl | rfl | rfl | rfl | rfl
      · obtain ⟨f, h1, h2, h3, h4, h', p, o, a, b, a1, a2, b1, b2, b3, b4, b5, c1⟩ := act 15 22 (by simp)
        refine ⟨h', loopX_round (by simp [keepF, fget]) ?_⟩
        generalize loopX (codeL (callX C) l6_0) [1, 5, 7, 8] = L at c1 ⊢
        simp [l6_0, bodyX, codeL, opsE, stepE, isCall, calleeE, opE, wantE, odE, odS, odL, odSL, fget, fput, initE, keepF, binE, intOp, strOp, unE, eqpE, eqnE, neqB, ressE, resE, packL, packE, flat1, fcells, fillE, setL, cellsOf, lenE_sl, lenE_nils, lenE_sl0, bound, drawE_nil, traceE, slotsG, slotsE, odT, odsT, optT, partsT, rep, List.getElem?_cons_zero, List.getElem?_cons_succ, get_len, get_len_add, get_len1, get_len2, get_len_add1, get_len_add2, k1, k2, hja, hget, hwi, hcz, a1, a2, b1, b2, b3, b4, b5, c1, w5, -getElem?_pos]
      · obtain ⟨f, h1, h2, h3, h4, h', p, o, a, b, a1, a2, b1, b2, b3, b4, b5, c1⟩ := act 15 22 (by simp)
        refine ⟨h', loopX_round (by simp [keepF, fget]) ?_⟩
        generalize loopX (codeL (callX C) l6_0) [1, 5, 7, 8] = L at c1 ⊢
        simp [l6_0, bodyX, codeL, opsE, stepE, isCall, calleeE, opE, wantE, odE, odS, odL, odSL, fget, fput, initE, keepF, binE, intOp, strOp, unE, eqpE, eqnE, neqB, ressE, resE, packL, packE, flat1, fcells, fillE, setL, cellsOf, lenE_sl, lenE_nils, lenE_sl0, bound, drawE_nil, traceE, slotsG, slotsE, odT, odsT, optT, partsT, rep, List.getElem?_cons_zero, List.getElem?_cons_succ, get_len, get_len_add, get_len1, get_len2, get_len_add1, get_len_add2, k1, k2, hja, hget, hwi, hcz, a1, a2, b1, b2, b3, b4, b5, c1, w5, -getElem?_pos]
      · obtain ⟨f, h1, h2, h3, h4, h', p, o, a, b, a1, a2, b1, b2, b3, b4, b5, c1⟩ := act 18 23 (by simp)
        refine ⟨h', loopX_round (by simp [keepF, fget]) ?_⟩
        generalize loopX (codeL (callX C) l6_0) [1, 5, 7, 8] = L at c1 ⊢
        simp [l6_0, bodyX, codeL, opsE, stepE, isCall, calleeE, opE, wantE, odE, odS, odL, odSL, fget, fput, initE, keepF, binE, intOp, strOp, unE, eqpE, eqnE, neqB, ressE, resE, packL, packE, flat1, fcells, fillE, setL, cellsOf, lenE_sl, lenE_nils, lenE_sl0, bound, drawE_nil, traceE, slotsG, slotsE, odT, odsT, optT, partsT, rep, List.getElem?_cons_zero, List.getElem?_cons_succ, get_len, get_len_add, get_len1, get_len2, get_len_add1, get_len_add2, k1, k2, hja, hget, hwi, hcz, a1, a2, b1, b2, b3, b4, b5, c1, w5, -getElem?_pos]
      · obtain ⟨f, h1, h2, h3, h4, h', p, o, a, b, a1, a2, b1, b2, b3, b4, b5, c1⟩ := act 18 23 (by simp)
        refine ⟨h', loopX_round (by simp [keepF, fget]) ?_⟩
        generalize loopX (codeL (callX C) l6_0) [1, 5, 7, 8] = L at c1 ⊢
        simp [l6_0, bodyX, codeL, opsE, stepE, isCall, calleeE, opE, wantE, odE, odS, odL, odSL, fget, fput, initE, keepF, binE, intOp, strOp, unE, eqpE, eqnE, neqB, ressE, resE, packL, packE, flat1, fcells, fillE, setL, cellsOf, lenE_sl, lenE_nils, lenE_sl0, bound, drawE_nil, traceE, slotsG, slotsE, odT, odsT, optT, partsT, rep, List.getElem?_cons_zero, List.getElem?_cons_succ, get_len, get_len_add, get_len1, get_len2, get_len_add1, get_len_add2, k1, k2, hja, hget, hwi, hcz, a1, a2, b1, b2, b3, b4, b5, c1, w5, -getElem?_pos]
      · obtain ⟨f, h1, h2, h3, h4, h', p, o, a, b, a1, a2, b1, b2, b3, b4, b5, c1⟩ := act 16 24 (by simp)
        refine ⟨h', loopX_round (by simp [keepF, fget]) ?_⟩
        generalize loopX (codeL (callX C) l6_0) [1, 5, 7, 8] = L at c1 ⊢
        simp [l6_0, bodyX, codeL, opsE, stepE, isCall, calleeE, opE, wantE, odE, odS, odL, odSL, fget, fput, initE, keepF, binE, intOp, strOp, unE, eqpE, eqnE, neqB, ressE, resE, packL, packE, flat1, fcells, fillE, setL, cellsOf, lenE_sl, lenE_nils, lenE_sl0, bound, drawE_nil, traceE, slotsG, slotsE, odT, odsT, optT, partsT, rep, List.getElem?_cons_zero, List.getElem?_cons_succ, get_len, get_len_add, get_len1, get_len2, get_len_add1, get_len_add2, k1, k2, hja, hget, hwi, hcz, a1, a2, b1, b2, b3, b4, b5, c1, w5, -getElem?_pos]
      · obtain ⟨f1, f2, hc', h1, h2, q, a1, a2, a3, a4, a5⟩ := clone_act w
        obtain ⟨p, o, h3, h4, a, b, b1, b2, b3, b4, b5, b6, b7⟩ := two_told a4 (by omega)
        obtain ⟨h', c1⟩ := ih h4 j j' t (c + 1) b6 (IntA_kept ha (a5.trans b7)) (by omega) (by omega)
        simp only [Int.natCast_add, Int.natCast_one] at c1
        refine ⟨h', loopX_round (by simp [keepF, fget]) ?_⟩
        generalize loopX (codeL (callX C) l6_0) [1, 5, 7, 8] = L at c1 ⊢
        simp [l6_0, bodyX, codeL, opsE, stepE, isCall, calleeE, opE, wantE, odE, odS, odL, odSL, fget, fput, initE, keepF, binE, intOp, strOp, unE, eqpE, eqnE, neqB, ressE, resE, packL, packE, flat1, fcells, fillE, setL, cellsOf, lenE_sl, lenE_nils, lenE_sl0, bound, drawE_nil, traceE, slotsG, slotsE, odT, odsT, optT, partsT, rep, List.getElem?_cons_zero, List.getElem?_cons_succ, get_len, get_len_add, get_len1, get_len2, get_len_add1, get_len_add2, k1, k2, hja, hget, hwi, hcz, a1, a2, a3, b1, b2, b3, b4, b5, c1, w5, eqpE, -getElem?_pos]
    · have k1 : ¬ ((c : Int) < zs.length) := by omega
      refine ⟨h, loopX_round (by simp [keepF, fget]) ?_⟩
      simp [l6_0, bodyX, codeL, opsE, stepE, isCall, calleeE, opE, wantE, odE, odS, odL, odSL, fget, fput, initE, keepF, binE, intOp, strOp, unE, eqpE, eqnE, neqB, ressE, resE, packL, packE, flat1, fcells, fillE, setL, cellsOf, lenE_sl, lenE_nils, lenE_sl0, bound, drawE_nil, traceE, slotsG, slotsE, odT, odsT, optT, partsT, rep, List.getElem?_cons_zero, List.getElem?_cons_succ, get_len, get_len_add, get_len1, get_len2, get_len_add1, get_len_add2, hlen, k1]

theorem plays_start {h0 : LH} {first : Int} (hp : 0 ≤ first ∧ first ≤ 399) : ∃ hA, hA = (h0 ++ [LO.own 4 [.bool false], LO.own 67 [.int .i64 first, .sl h0.length 0 0 1]]) ++ [LO.own 4 [.bool false], LO.own 70 [.int .i64 first, .int .i64 first, .sl (h0 ++ [LO.own 4 [.bool false], LO.own 67 [.int .i64 first, .sl h0.length 0 0 1]]).length 0 0 1]] ∧
    (∀ q, q < h0.length → hA[q]? = h0[q]?) ∧ Two hA (h0.length + 1) ((h0 ++ [LO.own 4 [.bool false], LO.own 67 [.int .i64 first, .sl h0.length 0 0 1]]).length + 1) h0.length ((h0 ++ [LO.own 4 [.bool false], LO.own 67 [.int .i64 first, .sl h0.length 0 0 1]]).length) first [false] := by
  refine ⟨_, rfl, fun q hq => ?_, ⟨⟨hp, by simp; omega, ⟨0, ?_⟩, ⟨[.bool false], ?_, by simp⟩⟩, ⟨hp, by simp; omega, ⟨0, ?_⟩, ⟨[.bool false], ?_, by simp⟩⟩, by simp⟩⟩
  · rw [get_app (by simp; omega), get_app hq]
  · rw [List.append_assoc, get_len_add]; rfl
  · rw [List.append_assoc, List.cons_append, get_len]
  · rw [get_len_add]
    have e : first + (([false] : List Bool).length : Int) - 1 = first := by simp
    rw [e]; rfl
  · rw [get_len]

theorem statusPlays_ok (f0 : Int) {h0 : LH} {av : SV} {zs : List Int} (ha : IntA h0 3 av zs) : ∃ h', callX C 6 [.s (.int .i64 f0), .s av] h0 = some (.s (.bool true), h') ∧ True := by
  refine callX_ex (e := C8.e6) rfl (by simp [C8.e6]) ?_
  by_cases hA7 : f0.tmod 7 = 6
  · have c1 : (f0.tmod 7 != 6) = false := by simp [hA7]
    by_cases hB : f0.tmod 5 = 3
    · have c2 : (f0.tmod 5 == 3) = true := by simp [hB]
      have hw2 := within_ok f0 4 (by omega) h0
      have w2 : IntKind.i64.wrap (399 - f0 % 4) = 399 - f0 % 4 := wrap_small (by omega) (by omega)
      by_cases hp : 0 ≤ 399 - f0 % 4 ∧ 399 - f0 % 4 ≤ 399
      · have hnew := new_ok (399 - f0 % 4) hp h0
        have hrn := rnew_ok (399 - f0 % 4) (h0 ++ [LO.own 4 [.bool false], LO.own 67 [.int .i64 (399 - f0 % 4), .sl h0.length 0 0 1]])
        have hper := period_yes hp (h0 ++ [LO.own 4 [.bool false], LO.own 67 [.int .i64 (399 - f0 % 4), .sl h0.length 0 0 1]])
        obtain ⟨hA, hAd, hAk, hT⟩ := plays_start (h0 := h0) hp
        rw [← hAd] at hrn
        obtain ⟨h1, a1⟩ := plays_loop 30 hA _ _ [false] 0 hT (IntA_kept ha (Kept.of hAk)) (by simp) (by omega)
        obtain ⟨h6, g1, g2, g3⟩ := wakes_ok h1
        simp only [Int.natCast_zero, List.length_append, List.length_cons, List.length_nil, Nat.zero_add, Nat.reduceAdd] at a1
        refine ⟨h6, ?_, trivial⟩
        refine body_of (fr := [(4, some (.s (.bool true)))]) ?_ (by simp [C8.e6, bodyX, codeL, opsE, stepE, isCall, calleeE, opE, wantE, odE, odS, odL, odSL, fget, fput, initE, keepF, binE, intOp, strOp, unE, eqpE, eqnE, neqB, ressE, resE, packL, packE, flat1, fcells, fillE, setL, cellsOf, lenE_sl, lenE_nils, lenE_sl0, bound, drawE_nil, traceE, slotsG, slotsE, odT, odsT, optT, partsT, rep, List.getElem?_cons_zero, List.getElem?_cons_succ, get_len, get_len_add, get_len1, get_len2, get_len_add1, get_len_add2])
        show codeL (callX C) b6 _ _ = _
        unfold b6
        refine seq_step (by simp [bodyX, codeL, opsE, stepE, isCall, calleeE, opE, wantE, odE, odS, odL, odSL, fget, fput, initE, keepF, binE, intOp, strOp, unE, eqpE, eqnE, neqB, ressE, resE, packL, packE, flat1, fcells, fillE, setL, cellsOf, lenE_sl, lenE_nils, lenE_sl0, bound, drawE_nil, traceE, slotsG, slotsE, odT, odsT, optT, partsT, rep, List.getElem?_cons_zero, List.getElem?_cons_succ, get_len, get_len_add, get_len1, get_len2, get_len_add1, get_len_add2]; first | exact ⟨rfl, rfl⟩ | rfl) ?_
        refine seq_step (by simp [bodyX, codeL, opsE, stepE, isCall, calleeE, opE, wantE, odE, odS, odL, odSL, fget, fput, initE, keepF, binE, intOp, strOp, unE, eqpE, eqnE, neqB, ressE, resE, packL, packE, flat1, fcells, fillE, setL, cellsOf, lenE_sl, lenE_nils, lenE_sl0, bound, drawE_nil, traceE, slotsG, slotsE, odT, odsT, optT, partsT, rep, List.getElem?_cons_zero, List.getElem?_cons_succ, get_len, get_len_add, get_len1, get_len2, get_len_add1, get_len_add2, c1]; first | exact ⟨rfl, rfl⟩ | rfl) ?_
        refine seq_step (by simp [bodyX, codeL, opsE, stepE, isCall, calleeE, opE, wantE, odE, odS, odL, odSL, fget, fput, initE, keepF, binE, intOp, strOp, unE, eqpE, eqnE, neqB, ressE, resE, packL, packE, flat1, fcells, fillE, setL, cellsOf, lenE_sl, lenE_nils, lenE_sl0, bound, drawE_nil, traceE, slotsG, slotsE, odT, odsT, optT, partsT, rep, List.getElem?_cons_zero, List.getElem?_cons_succ, get_len, get_len_add, get_len1, get_len2, get_len_add1, get_len_add2, c2, hw2, w2]; first | exact ⟨rfl, rfl⟩ | rfl) ?_
        refine seq_step (by simp [bodyX, codeL, opsE, stepE, isCall, calleeE, opE, wantE, odE, odS, odL, odSL, fget, fput, initE, keepF, binE, intOp, strOp, unE, eqpE, eqnE, neqB, ressE, resE, packL, packE, flat1, fcells, fillE, setL, cellsOf, lenE_sl, lenE_nils, lenE_sl0, bound, drawE_nil, traceE, slotsG, slotsE, odT, odsT, optT, partsT, rep, List.getElem?_cons_zero, List.getElem?_cons_succ, get_len, get_len_add, get_len1, get_len2, get_len_add1, get_len_add2, hnew]; first | exact ⟨rfl, rfl⟩ | rfl) ?_
        refine seq_step (by simp [bodyX, codeL, opsE, stepE, isCall, calleeE, opE, wantE, odE, odS, odL, odSL, fget, fput, initE, keepF, binE, intOp, strOp, unE, eqpE, eqnE, neqB, ressE, resE, packL, packE, flat1, fcells, fillE, setL, cellsOf, lenE_sl, lenE_nils, lenE_sl0, bound, drawE_nil, traceE, slotsG, slotsE, odT, odsT, optT, partsT, rep, List.getElem?_cons_zero, List.getElem?_cons_succ, get_len, get_len_add, get_len1, get_len2, get_len_add1, get_len_add2, hper]; first | exact ⟨rfl, rfl⟩ | rfl) ?_
        refine seq_step (by simp [bodyX, codeL, opsE, stepE, isCall, calleeE, opE, wantE, odE, odS, odL, odSL, fget, fput, initE, keepF, binE, intOp, strOp, unE, eqpE, eqnE, neqB, ressE, resE, packL, packE, flat1, fcells, fillE, setL, cellsOf, lenE_sl, lenE_nils, lenE_sl0, bound, drawE_nil, traceE, slotsG, slotsE, odT, odsT, optT, partsT, rep, List.getElem?_cons_zero, List.getElem?_cons_succ, get_len, get_len_add, get_len1, get_len2, get_len_add1, get_len_add2, hrn]; first | exact ⟨rfl, rfl⟩ | rfl) ?_
        refine seq_step (by simp [bodyX, codeL, opsE, stepE, isCall, calleeE, opE, wantE, odE, odS, odL, odSL, fget, fput, initE, keepF, binE, intOp, strOp, unE, eqpE, eqnE, neqB, ressE, resE, packL, packE, flat1, fcells, fillE, setL, cellsOf, lenE_sl, lenE_nils, lenE_sl0, bound, drawE_nil, traceE, slotsG, slotsE, odT, odsT, optT, partsT, rep, List.getElem?_cons_zero, List.getElem?_cons_succ, get_len, get_len_add, get_len1, get_len2, get_len_add1, get_len_add2]; first | exact ⟨rfl, rfl⟩ | rfl) ?_
        refine seq_step (by simp [bodyX, codeL, opsE, stepE, isCall, calleeE, opE, wantE, odE, odS, odL, odSL, fget, fput, initE, keepF, binE, intOp, strOp, unE, eqpE, eqnE, neqB, ressE, resE, packL, packE, flat1, fcells, fillE, setL, cellsOf, lenE_sl, lenE_nils, lenE_sl0, bound, drawE_nil, traceE, slotsG, slotsE, odT, odsT, optT, partsT, rep, List.getElem?_cons_zero, List.getElem?_cons_succ, get_len, get_len_add, get_len1, get_len2, get_len_add1, get_len_add2, a1]; first | exact ⟨rfl, rfl⟩ | rfl) ?_
        simp [bodyX, codeL, opsE, stepE, isCall, calleeE, opE, wantE, odE, odS, odL, odSL, fget, fput, initE, keepF, binE, intOp, strOp, unE, eqpE, eqnE, neqB, ressE, resE, packL, packE, flat1, fcells, fillE, setL, cellsOf, lenE_sl, lenE_nils, lenE_sl0, bound, drawE_nil, traceE, slotsG, slotsE, odT, odsT, optT, partsT, rep, List.getElem?_cons_zero, List.getElem?_cons_succ, get_len, get_len_add, get_len1, get_len2, get_len_add1, get_len_add2, g1]
      · have hnew := new_bad (399 - f0 % 4) hp h0
        have hper := period_no hp h0
        obtain ⟨h6, g1, g2, g3⟩ := wakes_ok h0
        refine ⟨h6, ?_, trivial⟩
        refine body_of (fr := [(4, some (.s (.bool true)))]) ?_ (by simp [C8.e6, bodyX, codeL, opsE, stepE, isCall, calleeE, opE, wantE, odE, odS, odL, odSL, fget, fput, initE, keepF, binE, intOp, strOp, unE, eqpE, eqnE, neqB, ressE, resE, packL, packE, flat1, fcells, fillE, setL, cellsOf, lenE_sl, lenE_nils, lenE_sl0, bound, drawE_nil, traceE, slotsG, slotsE, odT, odsT, optT, partsT, rep, List.getElem?_cons_zero, List.getElem?_cons_succ, get_len, get_len_add, get_len1, get_len2, get_len_add1, get_len_add2])
        show codeL (callX C) b6 _ _ = _
        unfold b6
        refine seq_step (by simp [bodyX, codeL, opsE, stepE, isCall, calleeE, opE, wantE, odE, odS, odL, odSL, fget, fput, initE, keepF, binE, intOp, strOp, unE, eqpE, eqnE, neqB, ressE, resE, packL, packE, flat1, fcells, fillE, setL, cellsOf, lenE_sl, lenE_nils, lenE_sl0, bound, drawE_nil, traceE, slotsG, slotsE, odT, odsT, optT, partsT, rep, List.getElem?_cons_zero, List.getElem?_cons_succ, get_len, get_len_add, get_len1, get_len2, get_len_add1, get_len_add2]; first | exact ⟨rfl, rfl⟩ | rfl) ?_
        refine seq_step (by simp [bodyX, codeL, opsE, stepE, isCall, calleeE, opE, wantE, odE, odS, odL, odSL, fget, fput, initE, keepF, binE, intOp, strOp, unE, eqpE, eqnE, neqB, ressE, resE, packL, packE, flat1, fcells, fillE, setL, cellsOf, lenE_sl, lenE_nils, lenE_sl0, bound, drawE_nil, traceE, slotsG, slotsE, odT, odsT, optT, partsT, rep, List.getElem?_cons_zero, List.getElem?_cons_succ, get_len, get_len_add, get_len1, get_len2, get_len_add1, get_len_add2, c1]; first | exact ⟨rfl, rfl⟩ | rfl) ?_
        refine seq_step (by simp [bodyX, codeL, opsE, stepE, isCall, calleeE, opE, wantE, odE, odS, odL, odSL, fget, fput, initE, keepF, binE, intOp, strOp, unE, eqpE, eqnE, neqB, ressE, resE, packL, packE, flat1, fcells, fillE, setL, cellsOf, lenE_sl, lenE_nils, lenE_sl0, bound, drawE_nil, traceE, slotsG, slotsE, odT, odsT, optT, partsT, rep, List.getElem?_cons_zero, List.getElem?_cons_succ, get_len, get_len_add, get_len1, get_len2, get_len_add1, get_len_add2, c2, hw2, w2]; first | exact ⟨rfl, rfl⟩ | rfl) ?_
        refine seq_step (by simp [bodyX, codeL, opsE, stepE, isCall, calleeE, opE, wantE, odE, odS, odL, odSL, fget, fput, initE, keepF, binE, intOp, strOp, unE, eqpE, eqnE, neqB, ressE, resE, packL, packE, flat1, fcells, fillE, setL, cellsOf, lenE_sl, lenE_nils, lenE_sl0, bound, drawE_nil, traceE, slotsG, slotsE, odT, odsT, optT, partsT, rep, List.getElem?_cons_zero, List.getElem?_cons_succ, get_len, get_len_add, get_len1, get_len2, get_len_add1, get_len_add2, hnew]; first | exact ⟨rfl, rfl⟩ | rfl) ?_
        refine seq_end (by simp [bodyX, codeL, opsE, stepE, isCall, calleeE, opE, wantE, odE, odS, odL, odSL, fget, fput, initE, keepF, binE, intOp, strOp, unE, eqpE, eqnE, neqB, ressE, resE, packL, packE, flat1, fcells, fillE, setL, cellsOf, lenE_sl, lenE_nils, lenE_sl0, bound, drawE_nil, traceE, slotsG, slotsE, odT, odsT, optT, partsT, rep, List.getElem?_cons_zero, List.getElem?_cons_succ, get_len, get_len_add, get_len1, get_len2, get_len_add1, get_len_add2, hper, g1]) (by simp)

    · have c2 : (f0.tmod 5 == 3) = false := by simp [hB]
      by_cases hp : 0 ≤ f0 ∧ f0 ≤ 399
      · have hnew := new_ok (f0) hp h0
        have hrn := rnew_ok (f0) (h0 ++ [LO.own 4 [.bool false], LO.own 67 [.int .i64 (f0), .sl h0.length 0 0 1]])
        have hper := period_yes hp (h0 ++ [LO.own 4 [.bool false], LO.own 67 [.int .i64 (f0), .sl h0.length 0 0 1]])
        obtain ⟨hA, hAd, hAk, hT⟩ := plays_start (h0 := h0) hp
        rw [← hAd] at hrn
        obtain ⟨h1, a1⟩ := plays_loop 30 hA _ _ [false] 0 hT (IntA_kept ha (Kept.of hAk)) (by simp) (by omega)
        obtain ⟨h6, g1, g2, g3⟩ := wakes_ok h1
        simp only [Int.natCast_zero, List.length_append, List.length_cons, List.length_nil, Nat.zero_add, Nat.reduceAdd] at a1
        refine ⟨h6, ?_, trivial⟩
        refine body_of (fr := [(4, some (.s (.bool true)))]) ?_ (by simp [C8.e6, bodyX, codeL, opsE, stepE, isCall, calleeE, opE, wantE, odE, odS, odL, odSL, fget, fput, initE, keepF, binE, intOp, strOp, unE, eqpE, eqnE, neqB, ressE, resE, packL, packE, flat1, fcells, fillE, setL, cellsOf, lenE_sl, lenE_nils, lenE_sl0, bound, drawE_nil, traceE, slotsG, slotsE, odT, odsT, optT, partsT, rep, List.getElem?_cons_zero, List.getElem?_cons_succ, get_len, get_len_add, get_len1, get_len2, get_len_add1, get_len_add2])
        show codeL (callX C) b6 _ _ = _
        unfold b6
        refine seq_step (by simp [bodyX, codeL, opsE, stepE, isCall, calleeE, opE, wantE, odE, odS, odL, odSL, fget, fput, initE, keepF, binE, intOp, strOp, unE, eqpE, eqnE, neqB, ressE, resE, packL, packE, flat1, fcells, fillE, setL, cellsOf, lenE_sl, lenE_nils, lenE_sl0, bound, drawE_nil, traceE, slotsG, slotsE, odT, odsT, optT, partsT, rep, List.getElem?_cons_zero, List.getElem?_cons_succ, get_len, get_len_add, get_len1, get_len2, get_len_add1, get_len_add2]; first | exact ⟨rfl, rfl⟩ | rfl) ?_
        refine seq_step (by simp [bodyX, codeL, opsE, stepE, isCall, calleeE, opE, wantE, odE, odS, odL, odSL, fget, fput, initE, keepF, binE, intOp, strOp, unE, eqpE, eqnE, neqB, ressE, resE, packL, packE, flat1, fcells, fillE, setL, cellsOf, lenE_sl, lenE_nils, lenE_sl0, bound, drawE_nil, traceE, slotsG, slotsE, odT, odsT, optT, partsT, rep, List.getElem?_cons_zero, List.getElem?_cons_succ, get_len, get_len_add, get_len1, get_len2, get_len_add1, get_len_add2, c1]; first | exact ⟨rfl, rfl⟩ | rfl) ?_
        refine seq_step (by simp [bodyX, codeL, opsE, stepE, isCall, calleeE, opE, wantE, odE, odS, odL, odSL, fget, fput, initE, keepF, binE, intOp, strOp, unE, eqpE, eqnE, neqB, ressE, resE, packL, packE, flat1, fcells, fillE, setL, cellsOf, lenE_sl, lenE_nils, lenE_sl0, bound, drawE_nil, traceE, slotsG, slotsE, odT, odsT, optT, partsT, rep, List.getElem?_cons_zero, List.getElem?_cons_succ, get_len, get_len_add, get_len1, get_len2, get_len_add1, get_len_add2, c2]; first | exact ⟨rfl, rfl⟩ | rfl) ?_
        refine seq_step (by simp [bodyX, codeL, opsE, stepE, isCall, calleeE, opE, wantE, odE, odS, odL, odSL, fget, fput, initE, keepF, binE, intOp, strOp, unE, eqpE, eqnE, neqB, ressE, resE, packL, packE, flat1, fcells, fillE, setL, cellsOf, lenE_sl, lenE_nils, lenE_sl0, bound, drawE_nil, traceE, slotsG, slotsE, odT, odsT, optT, partsT, rep, List.getElem?_cons_zero, List.getElem?_cons_succ, get_len, get_len_add, get_len1, get_len2, get_len_add1, get_len_add2, hnew]; first | exact ⟨rfl, rfl⟩ | rfl) ?_
        refine seq_step (by simp [bodyX, codeL, opsE, stepE, isCall, calleeE, opE, wantE, odE, odS, odL, odSL, fget, fput, initE, keepF, binE, intOp, strOp, unE, eqpE, eqnE, neqB, ressE, resE, packL, packE, flat1, fcells, fillE, setL, cellsOf, lenE_sl, lenE_nils, lenE_sl0, bound, drawE_nil, traceE, slotsG, slotsE, odT, odsT, optT, partsT, rep, List.getElem?_cons_zero, List.getElem?_cons_succ, get_len, get_len_add, get_len1, get_len2, get_len_add1, get_len_add2, hper]; first | exact ⟨rfl, rfl⟩ | rfl) ?_
        refine seq_step (by simp [bodyX, codeL, opsE, stepE, isCall, calleeE, opE, wantE, odE, odS, odL, odSL, fget, fput, initE, keepF, binE, intOp, strOp, unE, eqpE, eqnE, neqB, ressE, resE, packL, packE, flat1, fcells, fillE, setL, cellsOf, lenE_sl, lenE_nils, lenE_sl0, bound, drawE_nil, traceE, slotsG, slotsE, odT, odsT, optT, partsT, rep, List.getElem?_cons_zero, List.getElem?_cons_succ, get_len, get_len_add, get_len1, get_len2, get_len_add1, get_len_add2, hrn]; first | exact ⟨rfl, rfl⟩ | rfl) ?_
        refine seq_step (by simp [bodyX, codeL, opsE, stepE, isCall, calleeE, opE, wantE, odE, odS, odL, odSL, fget, fput, initE, keepF, binE, intOp, strOp, unE, eqpE, eqnE, neqB, ressE, resE, packL, packE, flat1, fcells, fillE, setL, cellsOf, lenE_sl, lenE_nils, lenE_sl0, bound, drawE_nil, traceE, slotsG, slotsE, odT, odsT, optT, partsT, rep, List.getElem?_cons_zero, List.getElem?_cons_succ, get_len, get_len_add, get_len1, get_len2, get_len_add1, get_len_add2]; first | exact ⟨rfl, rfl⟩ | rfl) ?_
        refine seq_step (by simp [bodyX, codeL, opsE, stepE, isCall, calleeE, opE, wantE, odE, odS, odL, odSL, fget, fput, initE, keepF, binE, intOp, strOp, unE, eqpE, eqnE, neqB, ressE, resE, packL, packE, flat1, fcells, fillE, setL, cellsOf, lenE_sl, lenE_nils, lenE_sl0, bound, drawE_nil, traceE, slotsG, slotsE, odT, odsT, optT, partsT, rep, List.getElem?_cons_zero, List.getElem?_cons_succ, get_len, get_len_add, get_len1, get_len2, get_len_add1, get_len_add2, a1]; first | exact ⟨rfl, rfl⟩ | rfl) ?_
        simp [bodyX, codeL, opsE, stepE, isCall, calleeE, opE, wantE, odE, odS, odL, odSL, fget, fput, initE, keepF, binE, intOp, strOp, unE, eqpE, eqnE, neqB, ressE, resE, packL, packE, flat1, fcells, fillE, setL, cellsOf, lenE_sl, lenE_nils, lenE_sl0, bound, drawE_nil, traceE, slotsG, slotsE, odT, odsT, optT, partsT, rep, List.getElem?_cons_zero, List.getElem?_cons_succ, get_len, get_len_add, get_len1, get_len2, get_len_add1, get_len_add2, g1]
      · have hnew := new_bad (f0) hp h0
        have hper := period_no hp h0
        obtain ⟨h6, g1, g2, g3⟩ := wakes_ok h0
        refine ⟨h6, ?_, trivial⟩
        refine body_of (fr := [(4, some (.s (.bool true)))]) ?_ (by simp [C8.e6, bodyX, codeL, opsE, stepE, isCall, calleeE, opE, wantE, odE, odS, odL, odSL, fget, fput, initE, keepF, binE, intOp, strOp, unE, eqpE, eqnE, neqB, ressE, resE, packL, packE, flat1, fcells, fillE, setL, cellsOf, lenE_sl, lenE_nils, lenE_sl0, bound, drawE_nil, traceE, slotsG, slotsE, odT, odsT, optT, partsT, rep, List.getElem?_cons_zero, List.getElem?_cons_succ, get_len, get_len_add, get_len1, get_len2, get_len_add1, get_len_add2])
        show codeL (callX C) b6 _ _ = _
        unfold b6
        refine seq_step (by simp [bodyX, codeL, opsE, stepE, isCall, calleeE, opE, wantE, odE, odS, odL, odSL, fget, fput, initE, keepF, binE, intOp, strOp, unE, eqpE, eqnE, neqB, ressE, resE, packL, packE, flat1, fcells, fillE, setL, cellsOf, lenE_sl, lenE_nils, lenE_sl0, bound, drawE_nil, traceE, slotsG, slotsE, odT, odsT, optT, partsT, rep, List.getElem?_cons_zero, List.getElem?_cons_succ, get_len, get_len_add, get_len1, get_len2, get_len_add1, get_len_add2]; first | exact ⟨rfl, rfl⟩ | rfl) ?_
        refine seq_step (by simp [bodyX, codeL, opsE, stepE, isCall, calleeE, opE, wantE, odE, odS, odL, odSL, fget, fput, initE, keepF, binE, intOp, strOp, unE, eqpE, eqnE, neqB, ressE, resE, packL, packE, flat1, fcells, fillE, setL, cellsOf, lenE_sl, lenE_nils, lenE_sl0, bound, drawE_nil, traceE, slotsG, slotsE, odT, odsT, optT, partsT, rep, List.getElem?_cons_zero, List.getElem?_cons_succ, get_len, get_len_add, get_len1, get_len2, get_len_add1, get_len_add2, c1]; first | exact ⟨rfl, rfl⟩ | rfl) ?_
        refine seq_step (by simp [bodyX, codeL, opsE, stepE, isCall, calleeE, opE, wantE, odE, odS, odL, odSL, fget, fput, initE, keepF, binE, intOp, strOp, unE, eqpE, eqnE, neqB, ressE, resE, packL, packE, flat1, fcells, fillE, setL, cellsOf, lenE_sl, lenE_nils, lenE_sl0, bound, drawE_nil, traceE, slotsG, slotsE, odT, odsT, optT, partsT, rep, List.getElem?_cons_zero, List.getElem?_cons_succ, get_len, get_len_add, get_len1, get_len2, get_len_add1, get_len_add2, c2]; first | exact ⟨rfl, rfl⟩ | rfl) ?_
        refine seq_step (by simp [bodyX, codeL, opsE, stepE, isCall, calleeE, opE, wantE, odE, odS, odL, odSL, fget, fput, initE, keepF, binE, intOp, strOp, unE, eqpE, eqnE, neqB, ressE, resE, packL, packE, flat1, fcells, fillE, setL, cellsOf, lenE_sl, lenE_nils, lenE_sl0, bound, drawE_nil, traceE, slotsG, slotsE, odT, odsT, optT, partsT, rep, List.getElem?_cons_zero, List.getElem?_cons_succ, get_len, get_len_add, get_len1, get_len2, get_len_add1, get_len_add2, hnew]; first | exact ⟨rfl, rfl⟩ | rfl) ?_
        refine seq_end (by simp [bodyX, codeL, opsE, stepE, isCall, calleeE, opE, wantE, odE, odS, odL, odSL, fget, fput, initE, keepF, binE, intOp, strOp, unE, eqpE, eqnE, neqB, ressE, resE, packL, packE, flat1, fcells, fillE, setL, cellsOf, lenE_sl, lenE_nils, lenE_sl0, bound, drawE_nil, traceE, slotsG, slotsE, odT, odsT, optT, partsT, rep, List.getElem?_cons_zero, List.getElem?_cons_succ, get_len, get_len_add, get_len1, get_len2, get_len_add1, get_len_add2, hper, g1]) (by simp)

  · have c1 : (f0.tmod 7 != 6) = true := by simp [hA7]
    have hw1 := within_ok f0 8 (by omega) h0
    by_cases hB : (f0 % 8).tmod 5 = 3
    · have c2 : ((f0 % 8).tmod 5 == 3) = true := by simp [hB]
      have hw2 := within_ok (f0 % 8) 4 (by omega) h0
      have w2 : IntKind.i64.wrap (399 - f0 % 8 % 4) = 399 - f0 % 8 % 4 := wrap_small (by omega) (by omega)
      generalize f0 % 8 % 4 = r at hw2 w2
      by_cases hp : 0 ≤ 399 - r ∧ 399 - r ≤ 399
      · have hnew := new_ok (399 - r) hp h0
        have hrn := rnew_ok (399 - r) (h0 ++ [LO.own 4 [.bool false], LO.own 67 [.int .i64 (399 - r), .sl h0.length 0 0 1]])
        have hper := period_yes hp (h0 ++ [LO.own 4 [.bool false], LO.own 67 [.int .i64 (399 - r), .sl h0.length 0 0 1]])
        obtain ⟨hA, hAd, hAk, hT⟩ := plays_start (h0 := h0) hp
        rw [← hAd] at hrn
        obtain ⟨h1, a1⟩ := plays_loop 30 hA _ _ [false] 0 hT (IntA_kept ha (Kept.of hAk)) (by simp) (by omega)
        obtain ⟨h6, g1, g2, g3⟩ := wakes_ok h1
        simp only [Int.natCast_zero, List.length_append, List.length_cons, List.length_nil, Nat.zero_add, Nat.reduceAdd] at a1
        refine ⟨h6, ?_, trivial⟩
        refine body_of (fr := [(4, some (.s (.bool true)))]) ?_ (by simp [C8.e6, bodyX, codeL, opsE, stepE, isCall, calleeE, opE, wantE, odE, odS, odL, odSL, fget, fput, initE, keepF, binE, intOp, strOp, unE, eqpE, eqnE, neqB, ressE, resE, packL, packE, flat1, fcells, fillE, setL, cellsOf, lenE_sl, lenE_nils, lenE_sl0, bound, drawE_nil, traceE, slotsG, slotsE, odT, odsT, optT, partsT, rep, List.getElem?_cons_zero, List.getElem?_cons_succ, get_len, get_len_add, get_len1, get_len2, get_len_add1, get_len_add2])
        show codeL (callX C) b6 _ _ = _
        unfold b6
        refine seq_step (by simp [bodyX, codeL, opsE, stepE, isCall, calleeE, opE, wantE, odE, odS, odL, odSL, fget, fput, initE, keepF, binE, intOp, strOp, unE, eqpE, eqnE, neqB, ressE, resE, packL, packE, flat1, fcells, fillE, setL, cellsOf, lenE_sl, lenE_nils, lenE_sl0, bound, drawE_nil, traceE, slotsG, slotsE, odT, odsT, optT, partsT, rep, List.getElem?_cons_zero, List.getElem?_cons_succ, get_len, get_len_add, get_len1, get_len2, get_len_add1, get_len_add2]; first | exact ⟨rfl, rfl⟩ | rfl) ?_
        refine seq_step (by simp [bodyX, codeL, opsE, stepE, isCall, calleeE, opE, wantE, odE, odS, odL, odSL, fget, fput, initE, keepF, binE, intOp, strOp, unE, eqpE, eqnE, neqB, ressE, resE, packL, packE, flat1, fcells, fillE, setL, cellsOf, lenE_sl, lenE_nils, lenE_sl0, bound, drawE_nil, traceE, slotsG, slotsE, odT, odsT, optT, partsT, rep, List.getElem?_cons_zero, List.getElem?_cons_succ, get_len, get_len_add, get_len1, get_len2, get_len_add1, get_len_add2, c1, hw1]; first | exact ⟨rfl, rfl⟩ | rfl) ?_
        refine seq_step (by simp [bodyX, codeL, opsE, stepE, isCall, calleeE, opE, wantE, odE, odS, odL, odSL, fget, fput, initE, keepF, binE, intOp, strOp, unE, eqpE, eqnE, neqB, ressE, resE, packL, packE, flat1, fcells, fillE, setL, cellsOf, lenE_sl, lenE_nils, lenE_sl0, bound, drawE_nil, traceE, slotsG, slotsE, odT, odsT, optT, partsT, rep, List.getElem?_cons_zero, List.getElem?_cons_succ, get_len, get_len_add, get_len1, get_len2, get_len_add1, get_len_add2, c2, hw2, w2]; first | exact ⟨rfl, rfl⟩ | rfl) ?_
        refine seq_step (by simp [bodyX, codeL, opsE, stepE, isCall, calleeE, opE, wantE, odE, odS, odL, odSL, fget, fput, initE, keepF, binE, intOp, strOp, unE, eqpE, eqnE, neqB, ressE, resE, packL, packE, flat1, fcells, fillE, setL, cellsOf, lenE_sl, lenE_nils, lenE_sl0, bound, drawE_nil, traceE, slotsG, slotsE, odT, odsT, optT, partsT, rep, List.getElem?_cons_zero, List.getElem?_cons_succ, get_len, get_len_add, get_len1, get_len2, get_len_add1, get_len_add2, hnew]; first | exact ⟨rfl, rfl⟩ | rfl) ?_
        refine seq_step (by simp [bodyX, codeL, opsE, stepE, isCall, calleeE, opE, wantE, odE, odS, odL, odSL, fget, fput, initE, keepF, binE, intOp, strOp, unE, eqpE, eqnE, neqB, ressE, resE, packL, packE, flat1, fcells, fillE, setL, cellsOf, lenE_sl, lenE_nils, lenE_sl0, bound, drawE_nil, traceE, slotsG, slotsE, odT, odsT, optT, partsT, rep, List.getElem?_cons_zero, List.getElem?_cons_succ, get_len, get_len_add, get_len1, get_len2, get_len_add1, get_len_add2, hper]; first | exact ⟨rfl, rfl⟩ | rfl) ?_
        refine seq_step (by simp [bodyX, codeL, opsE, stepE, isCall, calleeE, opE, wantE, odE, odS, odL, odSL, fget, fput, initE, keepF, binE, intOp, strOp, unE, eqpE, eqnE, neqB, ressE, resE, packL, packE, flat1, fcells, fillE, setL, cellsOf, lenE_sl, lenE_nils, lenE_sl0, bound, drawE_nil, traceE, slotsG, slotsE, odT, odsT, optT, partsT, rep, List.getElem?_cons_zero, List.getElem?_cons_succ, get_len, get_len_add, get_len1, get_len2, get_len_add1, get_len_add2, hrn]; first | exact ⟨rfl, rfl⟩ | rfl) ?_
        refine seq_step (by simp [bodyX, codeL, opsE, stepE, isCall, calleeE, opE, wantE, odE, odS, odL, odSL, fget, fput, initE, keepF, binE, intOp, strOp, unE, eqpE, eqnE, neqB, ressE, resE, packL, packE, flat1, fcells, fillE, setL, cellsOf, lenE_sl, lenE_nils, lenE_sl0, bound, drawE_nil, traceE, slotsG, slotsE, odT, odsT, optT, partsT, rep, List.getElem?_cons_zero, List.getElem?_cons_succ, get_len, get_len_add, get_len1, get_len2, get_len_add1, get_len_add2]; first | exact ⟨rfl, rfl⟩ | rfl) ?_
        refine seq_step (by simp [bodyX, codeL, opsE, stepE, isCall, calleeE, opE, wantE, odE, odS, odL, odSL, fget, fput, initE, keepF, binE, intOp, strOp, unE, eqpE, eqnE, neqB, ressE, resE, packL, packE, flat1, fcells, fillE, setL, cellsOf, lenE_sl, lenE_nils, lenE_sl0, bound, drawE_nil, traceE, slotsG, slotsE, odT, odsT, optT, partsT, rep, List.getElem?_cons_zero, List.getElem?_cons_succ, get_len, get_len_add, get_len1, get_len2, get_len_add1, get_len_add2, a1]; first | exact ⟨rfl, rfl⟩ | rfl) ?_
        simp [bodyX, codeL, opsE, stepE, isCall, calleeE, opE, wantE, odE, odS, odL, odSL, fget, fput, initE, keepF, binE, intOp, strOp, unE, eqpE, eqnE, neqB, ressE, resE, packL, packE, flat1, fcells, fillE, setL, cellsOf, lenE_sl, lenE_nils, lenE_sl0, bound, drawE_nil, traceE, slotsG, slotsE, odT, odsT, optT, partsT, rep, List.getElem?_cons_zero, List.getElem?_cons_succ, get_len, get_len_add, get_len1, get_len2, get_len_add1, get_len_add2, g1]
      · have hnew := new_bad (399 - r) hp h0
        have hper := period_no hp h0
        obtain ⟨h6, g1, g2, g3⟩ := wakes_ok h0
        refine ⟨h6, ?_, trivial⟩
        refine body_of (fr := [(4, some (.s (.bool true)))]) ?_ (by simp [C8.e6, bodyX, codeL, opsE, stepE, isCall, calleeE, opE, wantE, odE, odS, odL, odSL, fget, fput, initE, keepF, binE, intOp, strOp, unE, eqpE, eqnE, neqB, ressE, resE, packL, packE, flat1, fcells, fillE, setL, cellsOf, lenE_sl, lenE_nils, lenE_sl0, bound, drawE_nil, traceE, slotsG, slotsE, odT, odsT, optT, partsT, rep, List.getElem?_cons_zero, List.getElem?_cons_succ, get_len, get_len_add, get_len1, get_len2, get_len_add1, get_len_add2])
        show codeL (callX C) b6 _ _ = _
        unfold b6
        refine seq_step (by simp [bodyX, codeL, opsE, stepE, isCall, calleeE, opE, wantE, odE, odS, odL, odSL, fget, fput, initE, keepF, binE, intOp, strOp, unE, eqpE, eqnE, neqB, ressE, resE, packL, packE, flat1, fcells, fillE, setL, cellsOf, lenE_sl, lenE_nils, lenE_sl0, bound, drawE_nil, traceE, slotsG, slotsE, odT, odsT, optT, partsT, rep, List.getElem?_cons_zero, List.getElem?_cons_succ, get_len, get_len_add, get_len1, get_len2, get_len_add1, get_len_add2]; first | exact ⟨rfl, rfl⟩ | rfl) ?_
        refine seq_step (by simp [bodyX, codeL, opsE, stepE, isCall, calleeE, opE, wantE, odE, odS, odL, odSL, fget, fput, initE, keepF, binE, intOp, strOp, unE, eqpE, eqnE, neqB, ressE, resE, packL, packE, flat1, fcells, fillE, setL, cellsOf, lenE_sl, lenE_nils, lenE_sl0, bound, drawE_nil, traceE, slotsG, slotsE, odT, odsT, optT, partsT, rep, List.getElem?_cons_zero, List.getElem?_cons_succ, get_len, get_len_add, get_len1, get_len2, get_len_add1, get_len_add2, c1, hw1]; first | exact ⟨rfl, rfl⟩ | rfl) ?_
        refine seq_step (by simp [bodyX, codeL, opsE, stepE, isCall, calleeE, opE, wantE, odE, odS, odL, odSL, fget, fput, initE, keepF, binE, intOp, strOp, unE, eqpE, eqnE, neqB, ressE, resE, packL, packE, flat1, fcells, fillE, setL, cellsOf, lenE_sl, lenE_nils, lenE_sl0, bound, drawE_nil, traceE, slotsG, slotsE, odT, odsT, optT, partsT, rep, List.getElem?_cons_zero, List.getElem?_cons_succ, get_len, get_len_add, get_len1, get_len2, get_len_add1, get_len_add2, c2, hw2, w2]; first | exact ⟨rfl, rfl⟩ | rfl) ?_
        refine seq_step (by simp [bodyX, codeL, opsE, stepE, isCall, calleeE, opE, wantE, odE, odS, odL, odSL, fget, fput, initE, keepF, binE, intOp, strOp, unE, eqpE, eqnE, neqB, ressE, resE, packL, packE, flat1, fcells, fillE, setL, cellsOf, lenE_sl, lenE_nils, lenE_sl0, bound, drawE_nil, traceE, slotsG, slotsE, odT, odsT, optT, partsT, rep, List.getElem?_cons_zero, List.getElem?_cons_succ, get_len, get_len_add, get_len1, get_len2, get_len_add1, get_len_add2, hnew]; first | exact ⟨rfl, rfl⟩ | rfl) ?_
        refine seq_end (by simp [bodyX, codeL, opsE, stepE, isCall, calleeE, opE, wantE, odE, odS, odL, odSL, fget, fput, initE, keepF, binE, intOp, strOp, unE, eqpE, eqnE, neqB, ressE, resE, packL, packE, flat1, fcells, fillE, setL, cellsOf, lenE_sl, lenE_nils, lenE_sl0, bound, drawE_nil, traceE, slotsG, slotsE, odT, odsT, optT, partsT, rep, List.getElem?_cons_zero, List.getElem?_cons_succ, get_len, get_len_add, get_len1, get_len2, get_len_add1, get_len_add2, hper, g1]) (by simp)

    · have c2 : ((f0 % 8).tmod 5 == 3) = false := by simp [hB]
      by_cases hp : 0 ≤ f0 % 8 ∧ f0 % 8 ≤ 399
      · have hnew := new_ok (f0 % 8) hp h0
        have hrn := rnew_ok (f0 % 8) (h0 ++ [LO.own 4 [.bool false], LO.own 67 [.int .i64 (f0 % 8), .sl h0.length 0 0 1]])
        have hper := period_yes hp (h0 ++ [LO.own 4 [.bool false], LO.own 67 [.int .i64 (f0 % 8), .sl h0.length 0 0 1]])
        obtain ⟨hA, hAd, hAk, hT⟩ := plays_start (h0 := h0) hp
        rw [← hAd] at hrn
        obtain ⟨h1, a1⟩ := plays_loop 30 hA _ _ [false] 0 hT (IntA_kept ha (Kept.of hAk)) (by simp) (by omega)
        obtain ⟨h6, g1, g2, g3⟩ := wakes_ok h1
        simp only [Int.natCast_zero, List.length_append, List.length_cons, List.length_nil, Nat.zero_add, Nat.reduceAdd] at a1
        refine ⟨h6, ?_, trivial⟩
        refine body_of (fr := [(4, some (.s (.bool true)))]) ?_ (by simp [C8.e6, bodyX, codeL, opsE, stepE, isCall, calleeE, opE, wantE, odE, odS, odL, odSL, fget, fput, initE, keepF, binE, intOp, strOp, unE, eqpE, eqnE, neqB, ressE, resE, packL, packE, flat1, fcells, fillE, setL, cellsOf, lenE_sl, lenE_nils, lenE_sl0, bound, drawE_nil, traceE, slotsG, slotsE, odT, odsT, optT, partsT, rep, List.getElem?_cons_zero, List.getElem?_cons_succ, get_len, get_len_add, get_len1, get_len2, get_len_add1, get_len_add2])
        show codeL (callX C) b6 _ _ = _
        unfold b6
        refine seq_step (by simp [bodyX, codeL, opsE, stepE, isCall, calleeE, opE, wantE, odE, odS, odL, odSL, fget, fput, initE, keepF, binE, intOp, strOp, unE, eqpE, eqnE, neqB, ressE, resE, packL, packE, flat1, fcells, fillE, setL, cellsOf, lenE_sl, lenE_nils, lenE_sl0, bound, drawE_nil, traceE, slotsG, slotsE, odT, odsT, optT, partsT, rep, List.getElem?_cons_zero, List.getElem?_cons_succ, get_len, get_len_add, get_len1, get_len2, get_len_add1, get_len_add2]; first | exact ⟨rfl, rfl⟩ | rfl) ?_
        refine seq_step (by simp [bodyX, codeL, opsE, stepE, isCall, calleeE, opE, wantE, odE, odS, odL, odSL, fget, fput, initE, keepF, binE, intOp, strOp, unE, eqpE, eqnE, neqB, ressE, resE, packL, packE, flat1, fcells, fillE, setL, cellsOf, lenE_sl, lenE_nils, lenE_sl0, bound, drawE_nil, traceE, slotsG, slotsE, odT, odsT, optT, partsT, rep, List.getElem?_cons_zero, List.getElem?_cons_succ, get_len, get_len_add, get_len1, get_len2, get_len_add1, get_len_add2, c1, hw1]; first | exact ⟨rfl, rfl⟩ | rfl) ?_
        refine seq_step (by simp [bodyX, codeL, opsE, stepE, isCall, calleeE, opE, wantE, odE, odS, odL, odSL, fget, fput, initE, keepF, binE, intOp, strOp, unE, eqpE, eqnE, neqB, ressE, resE, packL, packE, flat1, fcells, fillE, setL, cellsOf, lenE_sl, lenE_nils, lenE_sl0, bound, drawE_nil, traceE, slotsG, slotsE, odT, odsT, optT, partsT, rep, List.getElem?_cons_zero, List.getElem?_cons_succ, get_len, get_len_add, get_len1, get_len2, get_len_add1, get_len_add2, c2]; first | exact ⟨rfl, rfl⟩ | rfl) ?_
        refine seq_step (by simp [bodyX, codeL, opsE, stepE, isCall, calleeE, opE, wantE, odE, odS, odL, odSL, fget, fput, initE, keepF, binE, intOp, strOp, unE, eqpE, eqnE, neqB, ressE, resE, packL, packE, flat1, fcells, fillE, setL, cellsOf, lenE_sl, lenE_nils, lenE_sl0, bound, drawE_nil, traceE, slotsG, slotsE, odT, odsT, optT, partsT, rep, List.getElem?_cons_zero, List.getElem?_cons_succ, get_len, get_len_add, get_len1, get_len2, get_len_add1, get_len_add2, hnew]; first | exact ⟨rfl, rfl⟩ | rfl) ?_
        refine seq_step (by simp [bodyX, codeL, opsE, stepE, isCall, calleeE, opE, wantE, odE, odS, odL, odSL, fget, fput, initE, keepF, binE, intOp, strOp, unE, eqpE, eqnE, neqB, ressE, resE, packL, packE, flat1, fcells, fillE, setL, cellsOf, lenE_sl, lenE_nils, lenE_sl0, bound, drawE_nil, traceE, slotsG, slotsE, odT, odsT, optT, partsT, rep, List.getElem?_cons_zero, List.getElem?_cons_succ, get_len, get_len_add, get_len1, get_len2, get_len_add1, get_len_add2, hper]; first | exact ⟨rfl, rfl⟩ | rfl) ?_
        refine seq_step (by simp [bodyX, codeL, opsE, stepE, isCall, calleeE, opE, wantE, odE, odS, odL, odSL, fget, fput, initE, keepF, binE, intOp, strOp, unE, eqpE, eqnE, neqB, ressE, resE, packL, packE, flat1, fcells, fillE, setL, cellsOf, lenE_sl, lenE_nils, lenE_sl0, bound, drawE_nil, traceE, slotsG, slotsE, odT, odsT, optT, partsT, rep, List.getElem?_cons_zero, List.getElem?_cons_succ, get_len, get_len_add, get_len1, get_len2, get_len_add1, get_len_add2, hrn]; first | exact ⟨rfl, rfl⟩ | rfl) ?_
        refine seq_step (by simp [bodyX, codeL, opsE, stepE, isCall, calleeE, opE, wantE, odE, odS, odL, odSL, fget, fput, initE, keepF, binE, intOp, strOp, unE, eqpE, eqnE, neqB, ressE, resE, packL, packE, flat1, fcells, fillE, setL, cellsOf, lenE_sl, lenE_nils, lenE_sl0, bound, drawE_nil, traceE, slotsG, slotsE, odT, odsT, optT, partsT, rep, List.getElem?_cons_zero, List.getElem?_cons_succ, get_len, get_len_add, get_len1, get_len2, get_len_add1, get_len_add2]; first | exact ⟨rfl, rfl⟩ | rfl) ?_
        refine seq_step (by simp [bodyX, codeL, opsE, stepE, isCall, calleeE, opE, wantE, odE, odS, odL, odSL, fget, fput, initE, keepF, binE, intOp, strOp, unE, eqpE, eqnE, neqB, ressE, resE, packL, packE, flat1, fcells, fillE, setL, cellsOf, lenE_sl, lenE_nils, lenE_sl0, bound, drawE_nil, traceE, slotsG, slotsE, odT, odsT, optT, partsT, rep, List.getElem?_cons_zero, List.getElem?_cons_succ, get_len, get_len_add, get_len1, get_len2, get_len_add1, get_len_add2, a1]; first | exact ⟨rfl, rfl⟩ | rfl) ?_
        simp [bodyX, codeL, opsE, stepE, isCall, calleeE, opE, wantE, odE, odS, odL, odSL, fget, fput, initE, keepF, binE, intOp, strOp, unE, eqpE, eqnE, neqB, ressE, resE, packL, packE, flat1, fcells, fillE, setL, cellsOf, lenE_sl, lenE_nils, lenE_sl0, bound, drawE_nil, traceE, slotsG, slotsE, odT, odsT, optT, partsT, rep, List.getElem?_cons_zero, List.getElem?_cons_succ, get_len, get_len_add, get_len1, get_len2, get_len_add1, get_len_add2, g1]
      · have hnew := new_bad (f0 % 8) hp h0
        have hper := period_no hp h0
        obtain ⟨h6, g1, g2, g3⟩ := wakes_ok h0
        refine ⟨h6, ?_, trivial⟩
        refine body_of (fr := [(4, some (.s (.bool true)))]) ?_ (by simp [C8.e6, bodyX, codeL, opsE, stepE, isCall, calleeE, opE, wantE, odE, odS, odL, odSL, fget, fput, initE, keepF, binE, intOp, strOp, unE, eqpE, eqnE, neqB, ressE, resE, packL, packE, flat1, fcells, fillE, setL, cellsOf, lenE_sl, lenE_nils, lenE_sl0, bound, drawE_nil, traceE, slotsG, slotsE, odT, odsT, optT, partsT, rep, List.getElem?_cons_zero, List.getElem?_cons_succ, get_len, get_len_add, get_len1, get_len2, get_len_add1, get_len_add2])
        show codeL (callX C) b6 _ _ = _
        unfold b6
        refine seq_step (by simp [bodyX, codeL, opsE, stepE, isCall, calleeE, opE, wantE, odE, odS, odL, odSL, fget, fput, initE, keepF, binE, intOp, strOp, unE, eqpE, eqnE, neqB, ressE, resE, packL, packE, flat1, fcells, fillE, setL, cellsOf, lenE_sl, lenE_nils, lenE_sl0, bound, drawE_nil, traceE, slotsG, slotsE, odT, odsT, optT, partsT, rep, List.getElem?_cons_zero, List.getElem?_cons_succ, get_len, get_len_add, get_len1, get_len2, get_len_add1, get_len_add2]; first | exact ⟨rfl, rfl⟩ | rfl) ?_
        refine seq_step (by simp [bodyX, codeL, opsE, stepE, isCall, calleeE, opE, wantE, odE, odS, odL, odSL, fget, fput, initE, keepF, binE, intOp, strOp, unE, eqpE, eqnE, neqB, ressE, resE, packL, packE, flat1, fcells, fillE, setL, cellsOf, lenE_sl, lenE_nils, lenE_sl0, bound, drawE_nil, traceE, slotsG, slotsE, odT, odsT, optT, partsT, rep, List.getElem?_cons_zero, List.getElem?_cons_succ, get_len, get_len_add, get_len1, get_len2, get_len_add1, get_len_add2, c1, hw1]; first | exact ⟨rfl, rfl⟩ | rfl) ?_
        refine seq_step (by simp [bodyX, codeL, opsE, stepE, isCall, calleeE, opE, wantE, odE, odS, odL, odSL, fget, fput, initE, keepF, binE, intOp, strOp, unE, eqpE, eqnE, neqB, ressE, resE, packL, packE, flat1, fcells, fillE, setL, cellsOf, lenE_sl, lenE_nils, lenE_sl0, bound, drawE_nil, traceE, slotsG, slotsE, odT, odsT, optT, partsT, rep, List.getElem?_cons_zero, List.getElem?_cons_succ, get_len, get_len_add, get_len1, get_len2, get_len_add1, get_len_add2, c2]; first | exact ⟨rfl, rfl⟩ | rfl) ?_
        refine seq_step (by simp [bodyX, codeL, opsE, stepE, isCall, calleeE, opE, wantE, odE, odS, odL, odSL, fget, fput, initE, keepF, binE, intOp, strOp, unE, eqpE, eqnE, neqB, ressE, resE, packL, packE, flat1, fcells, fillE, setL, cellsOf, lenE_sl, lenE_nils, lenE_sl0, bound, drawE_nil, traceE, slotsG, slotsE, odT, odsT, optT, partsT, rep, List.getElem?_cons_zero, List.getElem?_cons_succ, get_len, get_len_add, get_len1, get_len2, get_len_add1, get_len_add2, hnew]; first | exact ⟨rfl, rfl⟩ | rfl) ?_
        refine seq_end (by simp [bodyX, codeL, opsE, stepE, isCall, calleeE, opE, wantE, odE, odS, odL, odSL, fget, fput, initE, keepF, binE, intOp, strOp, unE, eqpE, eqnE, neqB, ressE, resE, packL, packE, flat1, fcells, fillE, setL, cellsOf, lenE_sl, lenE_nils, lenE_sl0, bound, drawE_nil, traceE, slotsG, slotsE, odT, odsT, optT, partsT, rep, List.getElem?_cons_zero, List.getElem?_cons_succ, get_len, get_len_add, get_len1, get_len2, get_len_add1, get_len_add2, hper, g1]) (by simp)

end Go.Proofs.Ytaafbpniakldpaa.Ev.C8
