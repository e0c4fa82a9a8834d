/- StatusRow on the small machine. -/
import Derived.Test.YtaafbpniakldpaaStatLem
import Derived.Test.YtaafbpniakldpaaEvRow
set_option linter.unusedSimpArgs false
set_option linter.unusedVariables false
namespace Go.Proofs.Ytaafbpniakldpaa.Ev.C8
open Go

/-- What came in stays. -/
def Kept (h h' : LH) : Prop := ∀ (q t : Nat) (vs : List SV), h[q]? = some (LO.ro t vs) → h'[q]? = some (LO.ro t vs)
theorem Kept.refl (h : LH) : Kept h h := fun _ _ _ e => e
theorem Kept.trans {a b c : LH} (x : Kept a b) (y : Kept b c) : Kept a c := fun q t vs e => y q t vs (x q t vs e)
theorem Kept.of {h h' : LH} (hk : ∀ q, q < h.length → h'[q]? = h[q]?) : Kept h h' := fun q t vs e => by rw [hk q (lt_of_some e)]; exact e
theorem Kept.but {h h' : LH} {i j : Nat} {first : Int} {t : List Bool} (s : St h i j first t) (hk : ∀ q, q < h.length → q ≠ i → q ≠ j → h'[q]? = h[q]?) : Kept h h' := fun q ty vs e => by
  obtain ⟨p, h1⟩ := s.obj
  obtain ⟨us, h2, _⟩ := s.arr
  rw [hk q (lt_of_some e) (fun x => by rw [x, h1] at e; cases e) (fun x => by rw [x, h2] at e; cases e)]; exact e
theorem IntA_kept {h h' : LH} {e : Nat} {v : SV} {l : List Int} (a : IntA h e v l) (k : Kept h h') : IntA h' e v l := by
  rcases a with a | ⟨j, a, b⟩
  · exact .inl a
  · exact .inr ⟨j, a, k _ _ _ b⟩
theorem IntA_len {h : LH} {e : Nat} {v : SV} {l : List Int} (a : IntA h e v l) : lenE v = some l.length := by
  rcases a with ⟨rfl, rfl⟩ | ⟨j, rfl, _⟩ <;> rfl

theorem row_inner {first : Int} (hf : 0 ≤ first ∧ first ≤ 299) {i c : Nat} {av : SV} {n : Nat} (hn : n ≤ 1000) {h : LH} {w : SV} (hw : Ints h w ((List.range n).map fun (x : Nat) => first + (x : Int))) : ∀ (m k : Nat), k + m = n →
    loopX (codeL (callX C) l4_0) [0, 1, 5, 7, 15, 99, 100] [(0, some (.s (.int .i64 first))), (1, some (.s av)), (5, some (.s (.ptr i 0))), (7, some (.s (.int .i64 c))), (15, some (.s w)), (99, some (.s (.int .i64 n))), (100, some (.s (.int .i64 k)))] h =
      some (.exit 3, [(0, some (.s (.int .i64 first))), (1, some (.s av)), (5, some (.s (.ptr i 0))), (7, some (.s (.int .i64 c)))], h) := by
  intro m
  induction m with
  | zero =>
    intro k hk
    obtain rfl : k = n := by omega
    refine loopX_round (by simp [keepF, fget]) ?_
    simp [l4_0, bodyX, codeL, opsE, stepE, isCall, calleeE, opE, wantE, odE, odS, odL, odSL, fget, fput, initE, keepF, binE, intOp, strOp, unE, eqpE, eqnE, neqB, ressE, resE, packL, packE, flat1, fcells, fillE, setL, cellsOf, lenE_sl, lenE_nils, lenE_sl0, bound, drawE_nil, traceE, slotsG, slotsE, odT, odsT, optT, partsT, rep, List.getElem?_cons_zero, List.getElem?_cons_succ, get_len, get_len_add, get_len1, get_len2, get_len_add1, get_len_add2]
  | succ m ih =>
    intro k hk
    have b1 := ih (k + 1) (by omega)
    simp only [Int.natCast_add, Int.natCast_one] at b1
    rcases hw with ⟨rfl, hz⟩ | ⟨j, p, rfl, hj⟩
    · exfalso
      have := congrArg List.length hz
      simp at this; omega
    · have hlt : (k : Int) < n := by omega
      have hlt' : k < n := by omega
      have w1 : IntKind.i64.wrap ((k : Int) + 1) = (k : Int) + 1 := wrap_small (by omega) (by omega)
      have w2 : IntKind.i64.wrap (first + (k : Int)) = first + (k : Int) := wrap_small (by omega) (by omega)
      refine loopX_round (by simp [keepF, fget]) ?_
      generalize loopX (codeL (callX C) l4_0) [0, 1, 5, 7, 15, 99, 100] = L at b1 ⊢
      simp only [List.length_map, List.length_range] at b1 ⊢
      have hr : (List.range n)[k]? = some k := by simp [hlt']
      simp [l4_0, bodyX, codeL, opsE, stepE, isCall, calleeE, opE, wantE, odE, odS, odL, odSL, fget, fput, initE, keepF, binE, intOp, strOp, unE, eqpE, eqnE, neqB, ressE, resE, packL, packE, flat1, fcells, fillE, setL, cellsOf, lenE_sl, lenE_nils, lenE_sl0, bound, drawE_nil, traceE, slotsG, slotsE, odT, odsT, optT, partsT, rep, List.getElem?_cons_zero, List.getElem?_cons_succ, get_len, get_len_add, get_len1, get_len2, get_len_add1, get_len_add2, hlt, hlt', hj, hr, w1, w2, b1, -getElem?_pos]

/-- What one act does: its answer, by how much the open period moves. -/
theorem row_act {h : LH} {i j : Nat} {first : Int} {t : List Bool} (s : St h i j first t) (hp : first + t.length ≤ 399) (g : Nat) (hg : g = 15 ∨ g = 16 ∨ g = 18) :
    ∃ (f : Int) (d : Int) (h' : LH) (j' : Nat) (t' : List Bool), callX C g [.s (.ptr i 0)] h = some (.s (.int .i64 f), h') ∧ St h' i j' first t' ∧ Kept h h' ∧ (t'.length : Int) = t.length + d ∧ (d = 1 ∧ f = 0 ∧ g = 15 ∨ d = 0 ∧ f = 0 ∧ g = 16 ∨ d = -1 ∧ f = 0 ∧ g = 18 ∨ d = 0 ∧ f ≠ 0 ∧ g = 18) := by
  have hl := s.len
  rcases hg with rfl | rfl | rfl
  · obtain ⟨h', q1, q2, q3, q4⟩ := close_yes s (by omega)
    exact ⟨0, 1, h', _, _, q1, q2, Kept.but s q4, by simp, .inl ⟨rfl, rfl, rfl⟩⟩
  · obtain ⟨h', q1, q2, q3, q4⟩ := touch_yes s (by omega)
    exact ⟨0, 0, h', _, _, q1, q2, Kept.but s (fun q _ _ hq => q4 q hq), by simp, .inr (.inl ⟨rfl, rfl, rfl⟩)⟩
  · by_cases h1 : t.length = 1
    · exact ⟨3, 0, h, j, t, reopen_none s h1, s, Kept.refl _, by simp, .inr (.inr (.inr ⟨rfl, by decide, rfl⟩))⟩
    · have hb : t[t.length - 1]? = some true ∨ t[t.length - 1]? = some false := by
        rw [List.getElem?_eq_getElem (by omega)]
        cases t[t.length - 1] <;> simp
      rcases hb with hb | hb
      · exact ⟨8, 0, h, j, t, reopen_held s (by omega) hb, s, Kept.refl _, by simp, .inr (.inr (.inr ⟨rfl, by decide, rfl⟩))⟩
      · obtain ⟨h', q1, q2, q3, q4⟩ := reopen_yes s (by omega) hb
        exact ⟨0, -1, h', _, _, q1, q2, Kept.but s (fun q _ hq _ => q4 q hq), by simp; omega, .inr (.inr (.inl ⟨rfl, rfl, rfl⟩))⟩

set_option maxHeartbeats 4000000 in
theorem row_loop {first : Int} (hf : 0 ≤ first ∧ first ≤ 299) {i : Nat} {av : SV} {zs : List Int} : ∀ (m : Nat) (h : LH) (j : Nat) (t : List Bool) (c : Nat), St h i j first t → IntA h 3 av zs → t.length ≤ c + 1 → c + m = 40 →
    ∃ h', loopX (codeL (callX C) l4_1) [0, 1, 5, 7] [(0, some (.s (.int .i64 first))), (1, some (.s av)), (5, some (.s (.ptr i 0))), (7, some (.s (.int .i64 c)))] h = some (.exit 0, [], h') := by
  intro m
  induction m with
  | zero =>
    intro h j t c s ha hl hc
    obtain rfl : c = 40 := by omega
    have hlen := IntA_len ha
    refine ⟨h, loopX_round (by simp [keepF, fget]) ?_⟩
    by_cases h1 : (40 : Int) < zs.length
    · simp [l4_1, bodyX, codeL, opsE, stepE, isCall, calleeE, opE, wantE, odE, odS, odL, odSL, fget, fput, initE, keepF, binE, intOp, strOp, unE, eqpE, eqnE, neqB, ressE, resE, packL, packE, flat1, fcells, fillE, setL, cellsOf, lenE_sl, lenE_nils, lenE_sl0, bound, drawE_nil, traceE, slotsG, slotsE, odT, odsT, optT, partsT, rep, List.getElem?_cons_zero, List.getElem?_cons_succ, get_len, get_len_add, get_len1, get_len2, get_len_add1, get_len_add2, hlen, h1]
    · simp [l4_1, bodyX, codeL, opsE, stepE, isCall, calleeE, opE, wantE, odE, odS, odL, odSL, fget, fput, initE, keepF, binE, intOp, strOp, unE, eqpE, eqnE, neqB, ressE, resE, packL, packE, flat1, fcells, fillE, setL, cellsOf, lenE_sl, lenE_nils, lenE_sl0, bound, drawE_nil, traceE, slotsG, slotsE, odT, odsT, optT, partsT, rep, List.getElem?_cons_zero, List.getElem?_cons_succ, get_len, get_len_add, get_len1, get_len2, get_len_add1, get_len_add2, hlen, h1]
  | succ m ih =>
    intro h j t c s ha hl hc
    have hlen := IntA_len ha
    have hsl := s.len
    by_cases hcz : c < zs.length
    · have k1 : (c : Int) < zs.length := by omega
      have k2 : (c : Int) < 40 := by omega
      obtain ⟨ja, rfl, hja⟩ : ∃ ja, av = .sl ja 0 0 zs.length ∧ h[ja]? = some (.ro 3 (zs.map (.int .i64))) := by
        rcases ha with ⟨_, rfl⟩ | x
        · simp at hcz
        · exact x
      have ho := open_yes s (by omega)
      obtain ⟨v1, h1, c1, w1, rfl, c2, c3, c4, c5⟩ := closed_ok s
      have c6 := c2.len
      rw [List.length_map, List.length_range] at c6
      have hja1 : h1[ja]? = some (.ro 3 (zs.map (.int .i64))) := by rw [c5 _ (lt_of_some hja)]; exact hja
      have hget : (zs.map (SV.int .i64))[c]? = some (.int .i64 zs[c]) := by simp [hcz]
      have hwi := within_ok zs[c] 4 (by omega) h1
      have hmod : 0 ≤ zs[c] % 4 ∧ zs[c] % 4 < 4 := by omega
      obtain ⟨g, hg, hgm⟩ : ∃ g, (g = 15 ∨ g = 16 ∨ g = 18) ∧ (g = 15 ∧ (zs[c] % 4 = 0 ∨ zs[c] % 4 = 1) ∨ g = 18 ∧ zs[c] % 4 = 2 ∨ g = 16 ∧ zs[c] % 4 = 3) := by
        by_cases e0 : zs[c] % 4 = 0 ∨ zs[c] % 4 = 1
        · exact ⟨15, .inl rfl, .inl ⟨rfl, e0⟩⟩
        · by_cases e2 : zs[c] % 4 = 2
          · exact ⟨18, .inr (.inr rfl), .inr (.inl ⟨rfl, e2⟩)⟩
          · exact ⟨16, .inr (.inl rfl), .inr (.inr ⟨rfl, by omega⟩)⟩
      obtain ⟨f, d, h2, j2, t2, a1, a2, a3, a4, a5⟩ := row_act c3 (by omega) g hg
      have hl2 := a2.len
      have ho2 := open_yes a2 (by omega)
      obtain ⟨v3, h3, d1, w3, rfl, d2, d3, d4, d5⟩ := closed_ok a2
      have d6 := d2.len
      rw [List.length_map, List.length_range] at d6
      obtain ⟨h', b1⟩ := ih h3 j2 t2 (c + 1) d3 (IntA_kept (IntA_kept (IntA_kept ha (Kept.of c5)) a3) (Kept.of d5)) (by omega) (by omega)
      have hin := row_inner (i := i) (c := c) (av := .sl ja 0 0 zs.length) hf (n := t2.length - 1) (by omega) d2 (t2.length - 1) 0 (by omega)
      have w5 : IntKind.i64.wrap ((c : Int) + 1) = (c : Int) + 1 := wrap_small (by omega) (by omega)
      simp only [Int.natCast_add, Int.natCast_one] at b1
      simp only [Int.natCast_zero] at hin
      generalize hr : zs[c] % 4 = r at hwi hmod hgm
      obtain ⟨p1, hp1⟩ : ∃ p1 : Int, p1 = first + t.length - 1 := ⟨_, rfl⟩
      obtain ⟨p2, hp2⟩ : ∃ p2 : Int, p2 = first + t2.length - 1 := ⟨_, rfl⟩
      obtain ⟨N1, hN1⟩ : ∃ N1 : Nat, N1 = t.length - 1 := ⟨_, rfl⟩
      obtain ⟨N2, hN2⟩ : ∃ N2 : Nat, N2 = t2.length - 1 := ⟨_, rfl⟩
      rw [← hp1] at ho
      rw [← hp2] at ho2
      rw [← hN1] at c6
      rw [← hN2] at d6 hin
      have e1 : IntKind.i64.wrap (p1 + d) = p2 := by rw [wrap_small (by omega) (by omega)]; omega
      have e2 : IntKind.i64.wrap ((N1 : Int) + d) = N2 := by rw [wrap_small (by omega) (by omega)]; omega
      have e3 : IntKind.i64.wrap (p2 - first) = N2 := by rw [wrap_small (by omega) (by omega)]; omega
      refine ⟨h', loopX_round (by simp [keepF, fget]) ?_⟩
      generalize loopX (codeL (callX C) l4_1) [0, 1, 5, 7] = L at b1 ⊢
      have fin : ∀ (f' : Int) (d' : Int), IntKind.i64.wrap (p1 + d') = p2 → IntKind.i64.wrap ((N1 : Int) + d') = N2 → True := fun _ _ _ _ => trivial
      rcases a5 with ⟨rfl, rfl, rfl⟩ | ⟨rfl, rfl, rfl⟩ | ⟨rfl, rfl, rfl⟩ | ⟨rfl, hf0, rfl⟩
      · rcases hgm with ⟨_, rfl | rfl⟩ | ⟨hx, _⟩ | ⟨hx, _⟩
        · simp [l4_1, bodyX, codeL, opsE, stepE, isCall, calleeE, opE, wantE, odE, odS, odL, odSL, fget, fput, initE, keepF, binE, intOp, strOp, unE, eqpE, eqnE, neqB, ressE, resE, packL, packE, flat1, fcells, fillE, setL, cellsOf, lenE_sl, lenE_nils, lenE_sl0, bound, drawE_nil, traceE, slotsG, slotsE, odT, odsT, optT, partsT, rep, List.getElem?_cons_zero, List.getElem?_cons_succ, get_len, get_len_add, get_len1, get_len2, get_len_add1, get_len_add2, k1, k2, ho, c1, c6, hja1, hget, hwi, hcz, a1, ho2, d1, d6, hin, e1, e2, e3, b1, w5, -getElem?_pos]
        · simp [l4_1, bodyX, codeL, opsE, stepE, isCall, calleeE, opE, wantE, odE, odS, odL, odSL, fget, fput, initE, keepF, binE, intOp, strOp, unE, eqpE, eqnE, neqB, ressE, resE, packL, packE, flat1, fcells, fillE, setL, cellsOf, lenE_sl, lenE_nils, lenE_sl0, bound, drawE_nil, traceE, slotsG, slotsE, odT, odsT, optT, partsT, rep, List.getElem?_cons_zero, List.getElem?_cons_succ, get_len, get_len_add, get_len1, get_len2, get_len_add1, get_len_add2, k1, k2, ho, c1, c6, hja1, hget, hwi, hcz, a1, ho2, d1, d6, hin, e1, e2, e3, b1, w5, -getElem?_pos]
        · cases hx
        · cases hx
      · rcases hgm with ⟨hx, _⟩ | ⟨hx, _⟩ | ⟨_, rfl⟩
        · cases hx
        · cases hx
        · simp only [Int.add_zero] at e1 e2
          simp [l4_1, bodyX, codeL, opsE, stepE, isCall, calleeE, opE, wantE, odE, odS, odL, odSL, fget, fput, initE, keepF, binE, intOp, strOp, unE, eqpE, eqnE, neqB, ressE, resE, packL, packE, flat1, fcells, fillE, setL, cellsOf, lenE_sl, lenE_nils, lenE_sl0, bound, drawE_nil, traceE, slotsG, slotsE, odT, odsT, optT, partsT, rep, List.getElem?_cons_zero, List.getElem?_cons_succ, get_len, get_len_add, get_len1, get_len2, get_len_add1, get_len_add2, k1, k2, ho, c1, c6, hja1, hget, hwi, hcz, a1, ho2, d1, d6, hin, e1, e2, e3, b1, w5, -getElem?_pos]
      · rcases hgm with ⟨hx, _⟩ | ⟨_, rfl⟩ | ⟨hx, _⟩
        · cases hx
        · simp [l4_1, bodyX, codeL, opsE, stepE, isCall, calleeE, opE, wantE, odE, odS, odL, odSL, fget, fput, initE, keepF, binE, intOp, strOp, unE, eqpE, eqnE, neqB, ressE, resE, packL, packE, flat1, fcells, fillE, setL, cellsOf, lenE_sl, lenE_nils, lenE_sl0, bound, drawE_nil, traceE, slotsG, slotsE, odT, odsT, optT, partsT, rep, List.getElem?_cons_zero, List.getElem?_cons_succ, get_len, get_len_add, get_len1, get_len2, get_len_add1, get_len_add2, k1, k2, ho, c1, c6, hja1, hget, hwi, hcz, a1, ho2, d1, d6, hin, e1, e2, e3, b1, w5, -getElem?_pos]
        · cases hx
      · rcases hgm with ⟨hx, _⟩ | ⟨_, rfl⟩ | ⟨hx, _⟩
        · cases hx
        · simp only [Int.add_zero] at e1 e2
          have hb : (f == 0) = false := by simpa using hf0
          have hb' : (f != 0) = true := by simpa using hf0
          simp [l4_1, bodyX, codeL, opsE, stepE, isCall, calleeE, opE, wantE, odE, odS, odL, odSL, fget, fput, initE, keepF, binE, intOp, strOp, unE, eqpE, eqnE, neqB, ressE, resE, packL, packE, flat1, fcells, fillE, setL, cellsOf, lenE_sl, lenE_nils, lenE_sl0, bound, drawE_nil, traceE, slotsG, slotsE, odT, odsT, optT, partsT, rep, List.getElem?_cons_zero, List.getElem?_cons_succ, get_len, get_len_add, get_len1, get_len2, get_len_add1, get_len_add2, k1, k2, ho, c1, c6, hja1, hget, hwi, hcz, a1, hb, hb', hf0, ho2, d1, d6, hin, e1, e2, e3, b1, w5, -getElem?_pos]
        · cases hx
    · have k1 : ¬ ((c : Int) < zs.length) := by omega
      refine ⟨h, loopX_round (by simp [keepF, fget]) ?_⟩
      simp [l4_1, bodyX, codeL, opsE, stepE, isCall, calleeE, opE, wantE, odE, odS, odL, odSL, fget, fput, initE, keepF, binE, intOp, strOp, unE, eqpE, eqnE, neqB, ressE, resE, packL, packE, flat1, fcells, fillE, setL, cellsOf, lenE_sl, lenE_nils, lenE_sl0, bound, drawE_nil, traceE, slotsG, slotsE, odT, odsT, optT, partsT, rep, List.getElem?_cons_zero, List.getElem?_cons_succ, get_len, get_len_add, get_len1, get_len2, get_len_add1, get_len_add2, hlen, k1]

theorem statusRow_ok (f0 : Int) {h0 : LH} {av : SV} {zs : List Int} (ha : IntA h0 3 av zs) : ∃ h', callX C 4 [.s (.int .i64 f0), .s av] h0 = some (.s (.bool true), h') ∧ True := by
  have hf : 0 ≤ f0 % 300 ∧ f0 % 300 ≤ 299 := by omega
  have hw1 := within_ok f0 300 (by omega) h0
  generalize f0 % 300 = first at hf hw1
  have hnew := new_ok first (by omega) h0
  have s : St (h0 ++ [LO.own 4 [.bool false], LO.own 67 [.int .i64 first, .sl h0.length 0 0 1]]) (h0.length + 1) h0.length first [false] :=
    ⟨by omega, by simp; omega, ⟨0, by rw [get_len_add]; rfl⟩, ⟨[.bool false], by rw [get_len], by simp⟩⟩
  obtain ⟨h1, a1⟩ := row_loop hf 40 _ _ [false] 0 s (IntA_kept ha (Kept.of fun q hq => get_app hq)) (by simp) (by omega)
  obtain ⟨h6, g1, g2, g3⟩ := wakes_ok h1
  simp only [Int.natCast_zero] at a1
  refine callX_ex (e := C8.e4) rfl (by simp [C8.e4]) ?_
  refine ⟨h6, ?_, trivial⟩
  refine body_of (fr := [(4, some (.s (.bool true)))]) ?_ (by simp [C8.e4, bodyX, codeL, opsE, stepE, isCall, calleeE, opE, wantE, odE, odS, odL, odSL, fget, fput, initE, keepF, binE, intOp, strOp, unE, eqpE, eqnE, neqB, ressE, resE, packL, packE, flat1, fcells, fillE, setL, cellsOf, lenE_sl, lenE_nils, lenE_sl0, bound, drawE_nil, traceE, slotsG, slotsE, odT, odsT, optT, partsT, rep, List.getElem?_cons_zero, List.getElem?_cons_succ, get_len, get_len_add, get_len1, get_len2, get_len_add1, get_len_add2])
  show codeL (callX C) b4 _ _ = _
  unfold b4
  refine seq_step (by simp [bodyX, codeL, opsE, stepE, isCall, calleeE, opE, wantE, odE, odS, odL, odSL, fget, fput, initE, keepF, binE, intOp, strOp, unE, eqpE, eqnE, neqB, ressE, resE, packL, packE, flat1, fcells, fillE, setL, cellsOf, lenE_sl, lenE_nils, lenE_sl0, bound, drawE_nil, traceE, slotsG, slotsE, odT, odsT, optT, partsT, rep, List.getElem?_cons_zero, List.getElem?_cons_succ, get_len, get_len_add, get_len1, get_len2, get_len_add1, get_len_add2]; first | exact ⟨rfl, rfl⟩ | rfl) ?_
  refine seq_step (by simp [bodyX, codeL, opsE, stepE, isCall, calleeE, opE, wantE, odE, odS, odL, odSL, fget, fput, initE, keepF, binE, intOp, strOp, unE, eqpE, eqnE, neqB, ressE, resE, packL, packE, flat1, fcells, fillE, setL, cellsOf, lenE_sl, lenE_nils, lenE_sl0, bound, drawE_nil, traceE, slotsG, slotsE, odT, odsT, optT, partsT, rep, List.getElem?_cons_zero, List.getElem?_cons_succ, get_len, get_len_add, get_len1, get_len2, get_len_add1, get_len_add2, hw1]; first | exact ⟨rfl, rfl⟩ | rfl) ?_
  refine seq_step (by simp [bodyX, codeL, opsE, stepE, isCall, calleeE, opE, wantE, odE, odS, odL, odSL, fget, fput, initE, keepF, binE, intOp, strOp, unE, eqpE, eqnE, neqB, ressE, resE, packL, packE, flat1, fcells, fillE, setL, cellsOf, lenE_sl, lenE_nils, lenE_sl0, bound, drawE_nil, traceE, slotsG, slotsE, odT, odsT, optT, partsT, rep, List.getElem?_cons_zero, List.getElem?_cons_succ, get_len, get_len_add, get_len1, get_len2, get_len_add1, get_len_add2, hnew]; first | exact ⟨rfl, rfl⟩ | rfl) ?_
  refine seq_step (by simp [bodyX, codeL, opsE, stepE, isCall, calleeE, opE, wantE, odE, odS, odL, odSL, fget, fput, initE, keepF, binE, intOp, strOp, unE, eqpE, eqnE, neqB, ressE, resE, packL, packE, flat1, fcells, fillE, setL, cellsOf, lenE_sl, lenE_nils, lenE_sl0, bound, drawE_nil, traceE, slotsG, slotsE, odT, odsT, optT, partsT, rep, List.getElem?_cons_zero, List.getElem?_cons_succ, get_len, get_len_add, get_len1, get_len2, get_len_add1, get_len_add2]; first | exact ⟨rfl, rfl⟩ | rfl) ?_
  refine seq_step (by simp [bodyX, codeL, opsE, stepE, isCall, calleeE, opE, wantE, odE, odS, odL, odSL, fget, fput, initE, keepF, binE, intOp, strOp, unE, eqpE, eqnE, neqB, ressE, resE, packL, packE, flat1, fcells, fillE, setL, cellsOf, lenE_sl, lenE_nils, lenE_sl0, bound, drawE_nil, traceE, slotsG, slotsE, odT, odsT, optT, partsT, rep, List.getElem?_cons_zero, List.getElem?_cons_succ, get_len, get_len_add, get_len1, get_len2, get_len_add1, get_len_add2, a1]; first | exact ⟨rfl, rfl⟩ | rfl) ?_
  simp [bodyX, codeL, opsE, stepE, isCall, calleeE, opE, wantE, odE, odS, odL, odSL, fget, fput, initE, keepF, binE, intOp, strOp, unE, eqpE, eqnE, neqB, ressE, resE, packL, packE, flat1, fcells, fillE, setL, cellsOf, lenE_sl, lenE_nils, lenE_sl0, bound, drawE_nil, traceE, slotsG, slotsE, odT, odsT, optT, partsT, rep, List.getElem?_cons_zero, List.getElem?_cons_succ, get_len, get_len_add, get_len1, get_len2, get_len_add1, get_len_add2, g1]

end Go.Proofs.Ytaafbpniakldpaa.Ev.C8
