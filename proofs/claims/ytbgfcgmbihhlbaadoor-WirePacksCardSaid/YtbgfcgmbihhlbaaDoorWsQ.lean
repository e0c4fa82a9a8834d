/- The document's bytes of commands, on the small machine. -/
import Derived.Test.YtbgfcgmbihhlbaaDoorWsP
set_option linter.unusedSimpArgs false
set_option linter.unusedVariables false
namespace Go.Proofs.YtbgfcgmbihhlbaaDoor.Ev.CW
open Go
open CK (Cm encC fieldsL fieldsB okC cmOf_enc)

/-- Bytes that are put together, beside a command and its letters. -/
def Bf (hb h : LH) (iC iF : Nat) (C0 F0 : List SV) (w : SV) (L : List Int) : Prop := Gr hb h ∧ Ow hb.length h 5 encB w L ∧ h[iC]? = some (.own 23 C0) ∧ h[iF]? = some (.own 5 F0) ∧ (∀ p o n, w ≠ .sl iF p o n)
theorem kill_keep {v : SV} {h q s : LH} {i : Nat} {o : LO} (hi : h[i]? = some o) (hne : ∀ p o n, v ≠ .sl i p o n) : (kill v (h ++ q) ++ s)[i]? = some o := by
  have hl := lt_of_some hi
  rw [List.getElem?_append_left (by rw [kill_len, List.length_append]; omega)]
  cases v with
  | sl j p o' n =>
    have : j ≠ i := fun e => hne p o' n (by rw [e])
    show ((h ++ q).set j _)[i]? = _
    rw [get_ne this, get_lt hl]; exact hi
  | _ => show (h ++ q)[i]? = _; rw [get_lt hl]; exact hi
theorem Bf.app {hb h : LH} {iC iF : Nat} {C0 F0 : List SV} {w : SV} {L : List Int} (b : Bf hb h iC iF C0 F0 w L) (q : LH) (new : List Int) (hl : L.length + new.length ≤ 1000000) :
    ∃ x h2, appE (h ++ q) 5 1 1 w new.length (new.flatMap encB) = some (.s x, h2) ∧ Bf hb h2 iC iF C0 F0 x (L ++ new) := by
  obtain ⟨g, ow, oC, oF, hne⟩ := b
  have hF := lt_of_some oF
  by_cases hn : new.length = 0
  · obtain rfl := List.eq_nil_of_length_eq_zero hn
    refine ⟨w, h ++ q, ?_, g.app q, by rw [List.append_nil]; exact ow.gr (Gr.self h q), (Gr.self h q).get oC, (Gr.self h q).get oF, hne⟩
    rcases ow with ⟨_, rfl⟩ | ⟨j, _, rfl, _⟩
    · exact appE_zero_nils
    · exact appE_zero_sl
  · have hA := ow.app (z := 1) encB_len (n := new.length) (y := 1) hn (by omega) (new.flatMap encB) q
    refine ⟨_, _, hA, (kill_gr (g.app q) (ow.gr (Gr.self h q))).app _, ?_, Ow.kill_get ow oC (fun vs e => by cases e) q _, kill_keep oF hne, ?_⟩
    · exact Ow.next (v := w) (g.app q).le rfl
    · intro p o n e
      have : (h ++ q).length = iF := by injection e
      rw [List.length_append] at this
      omega
theorem Bf.new {hb h : LH} {iC iF : Nat} {C0 F0 : List SV} {w : SV} {L : List Int} (b : Bf hb h iC iF C0 F0 w L) (q : LH) : Bf hb (h ++ q) iC iF C0 F0 w L :=
  ⟨b.1.app q, b.2.1.gr (Gr.self h q), (Gr.self h q).get b.2.2.1, (Gr.self h q).get b.2.2.2.1, b.2.2.2.2⟩

theorem shr8 (n : Int) {k : Nat} (hk : k < 8) {x : Int} (hx : (num8 n)[k]? = some x) : IntKind.u8.wrap ((IntKind.u64.wrap n).fdiv (2 ^ min ((56 : Int) - 8 * k).toNat IntKind.u64.bits)) = x := by
  have h : k = 0 ∨ k = 1 ∨ k = 2 ∨ k = 3 ∨ k = 4 ∨ k = 5 ∨ k = 6 ∨ k = 7 := by omega
  rcases h with rfl | rfl | rfl | rfl | rfl | rfl | rfl | rfl <;> (simp [num8] at hx; simp [IntKind.wrap, IntKind.bits, IntKind.signed, Int.fdiv_eq_ediv]; omega)

set_option maxRecDepth 20000 in
set_option maxHeartbeats 4000000 in
/-- A number's eight bytes. -/
theorem refNum_loop {hb h : LH} {iC iF : Nat} {C0 F0 : List SV} {w : SV} {P : List Int} (b : Bf hb h iC iF C0 F0 w P) (hP : P.length ≤ 500000) (n : Int) (v6 v11 v12 v13 v29 v30 v31 : Option FV) (Φ : Ex → Fr → LH → Prop)
    (hΦ : ∀ w' h', Bf hb h' iC iF C0 F0 w' (P ++ num8 n) → Φ (.exit 5) [(4, some (.s w')), (6, v6), (11, v11), (12, v12), (13, v13), (29, v29), (30, v30), (31, v31)] h') :
    WPl C l16_0 [4, 6, 9, 10, 11, 12, 13, 29, 30, 31] [(4, some (.s w)), (6, v6), (9, some (.s (.int .i64 n))), (10, some (.s (.int .i64 56))), (11, v11), (12, v12), (13, v13), (29, v29), (30, v30), (31, v31)] h Φ := by
  refine WPl.inv2 (fun m fr h' => ∃ k w, k ≤ 8 ∧ m = 8 - k ∧ Bf hb h' iC iF C0 F0 w (P ++ (num8 n).take k) ∧ fr = [(4, some (.s w)), (6, v6), (9, some (.s (.int .i64 n))), (10, some (.s (.int .i64 (56 - 8 * k)))), (11, v11), (12, v12), (13, v13), (29, v29), (30, v30), (31, v31)]) ?_ _ _ _ ⟨0, w, by omega, rfl, by simpa using b, rfl⟩
  rintro I hI m fr h' ⟨k, w, hk, rfl, bf, rfl⟩
  refine ⟨by simp [keepF, fget], ?_⟩
  by_cases hlt : k < 8
  · have g0 : (56 : Int) - 8 * k ≥ 0 := by omega
    have g2 : 8 * (k : Int) ≤ 56 := by omega
    have g1 : ¬ (56 : Int) - 8 * k < 0 := by omega
    have g3 : IntKind.u64.wrap (56 - 8 * (k : Int)) = 56 - 8 * (k : Int) := by simp [IntKind.wrap, IntKind.bits, IntKind.signed]; omega
    have w3 : IntKind.i64.wrap (56 - 8 * (k : Int) - 8) = 56 - 8 * ((k + 1 : Nat) : Int) := by rw [wrap_small (by omega) (by omega)]; omega
    have hl : ((num8 n).take k).length = k := by rw [List.length_take]; simp [num8]; omega
    obtain ⟨x, hx⟩ : ∃ x, (num8 n)[k]? = some x := ⟨_, List.getElem?_eq_getElem (by simp [num8]; omega)⟩
    have hx' := shr8 n hlt hx
    have ht : (num8 n).take (k + 1) = (num8 n).take k ++ [x] := by rw [List.take_add_one, hx]; rfl
    obtain ⟨y, h2, hA, bf2⟩ := bf.app [LO.own 5 [.int .u8 x]] [x] (by simp; omega)
    have hA' : appE (h' ++ [LO.own 5 [.int .u8 x]]) 5 1 1 w 1 [.int .u8 x] = some (.s y, h2) := hA
    rw [List.append_assoc, ← ht] at bf2
    clear bf b
    simp [wpk_skip, wpk_seq, k_cond, wpk_block, wpk_exit, wpk_ret, wpk_goto, wpk_label, wpk_loop, k_ops, k_draw0, t_nil, t_cons, KT_eq, KD_eq, wpo_nil, k_cons, k_step, mt_some, mtk_some, KO_eq, KP_eq, K_normal, K_ret, K_exit, KB_normal, KB_ret, KB_exit, KL_normal, KL_ret, KL_exit, K_goto, KB_goto, KL_goto, KS_goto, KS_ret, KS_normal, KS_exit, k_ret, k_normal, stepE, isCall, calleeE, opE, wantE, odE, odS, odL, odSL, fget, fput, initE, keepF, List.map_cons, List.map_nil, binE, intOp, strOp, shOp, unE, eqpE, eqnE, neqB, ressE, resE, packL, packE, flat1, fcells, fillE, setL, cellsOf_bind, cellsO_own, cellsO_ro, lenE_sl, lenE_nils, lenE_sl0, bound, rep, minE, maxE, Option.getD_some, Option.getD_none, isKey, nlS, List.getElem?_cons_zero, List.getElem?_cons_succ, get_lt, set_lt, get_len, get_len_add, set_len, set_len_add, List.append_assoc, List.cons_append, List.nil_append, -getElem?_pos, l16_0_1, l16_0, g0, g1, g2, g3, hx', shOp, elems, hA', w3]
    exact ⟨_, by omega, hI _ _ _ ⟨k + 1, _, by omega, rfl, bf2, rfl⟩⟩
  · obtain rfl : k = 8 := by omega
    rw [show (num8 n).take 8 = num8 n from rfl] at bf
    simp [wpk_skip, wpk_seq, k_cond, wpk_block, wpk_exit, wpk_ret, wpk_goto, wpk_label, wpk_loop, k_ops, k_draw0, t_nil, t_cons, KT_eq, KD_eq, wpo_nil, k_cons, k_step, mt_some, mtk_some, KO_eq, KP_eq, K_normal, K_ret, K_exit, KB_normal, KB_ret, KB_exit, KL_normal, KL_ret, KL_exit, K_goto, KB_goto, KL_goto, KS_goto, KS_ret, KS_normal, KS_exit, k_ret, k_normal, stepE, isCall, calleeE, opE, wantE, odE, odS, odL, odSL, fget, fput, initE, keepF, List.map_cons, List.map_nil, binE, intOp, strOp, shOp, unE, eqpE, eqnE, neqB, ressE, resE, packL, packE, flat1, fcells, fillE, setL, cellsOf_bind, cellsO_own, cellsO_ro, lenE_sl, lenE_nils, lenE_sl0, bound, rep, minE, maxE, Option.getD_some, Option.getD_none, isKey, nlS, List.getElem?_cons_zero, List.getElem?_cons_succ, get_lt, set_lt, get_len, get_len_add, set_len, set_len_add, List.append_assoc, List.cons_append, List.nil_append, -getElem?_pos, l16_0_1, l16_0]
    exact hΦ _ _ bf

theorem no63 {k : Int} (hk : 1 ≤ k ∧ k ≤ 12) : ∀ b ∈ fieldsL k, b ≠ 63 := by
  have hk' : k = 1 ∨ k = 2 ∨ k = 3 ∨ k = 4 ∨ k = 5 ∨ k = 6 ∨ k = 7 ∨ k = 8 ∨ k = 9 ∨ k = 10 ∨ k = 11 ∨ k = 12 := by omega
  rcases hk' with rfl | rfl | rfl | rfl | rfl | rfl | rfl | rfl | rfl | rfl | rfl | rfl <;> decide
theorem textB_split (s : ByteArray) : textB s = [(s.size : Int)] ++ bytesT s := rfl

set_option maxRecDepth 20000 in
set_option maxHeartbeats 8000000 in
/-- One letter's bytes. -/
theorem refPack_step {hb h : LH} {iC iF : Nat} {m : Cm} {F0 : List SV} {w : SV} {P : List Int} {j : Nat} {f : UInt8} (b : Bf hb h iC iF (encC m) F0 w P) (hP : P.length ≤ 400000) (hm : Short m) (h64 : True) (hf : f = 73 ∨ f = 75 ∨ f = 74 ∨ f = 67 ∨ f = 68 ∨ f = 89 ∨ f = 90 ∨ f = 80 ∨ f = 65 ∨ f = 82 ∨ f = 70) (hF0 : F0[j]? = some (.int .u8 f.toNat)) (n : Nat) (hjn : j < n) (hn : n ≤ F0.length) (hn6 : n ≤ 1000) (v11 v12 v13 : Option FV) (Φ : Ex → Fr → LH → Prop)
    (hΦ : ∀ w' h', Bf hb h' iC iF (encC m) F0 w' (P ++ packF m f) → Φ .normal [(4, some (.s w')), (6, some (.s (.ptr iC 0))), (11, v11), (12, v12), (13, v13), (29, some (.s (.sl iF 0 0 n))), (30, some (.s (.int .i64 n))), (31, some (.s (.int .i64 (j + 1 : Nat))))] h') :
    WPk C l16_1 [(4, some (.s w)), (6, some (.s (.ptr iC 0))), (11, v11), (12, v12), (13, v13), (29, some (.s (.sl iF 0 0 n))), (30, some (.s (.int .i64 n))), (31, some (.s (.int .i64 j)))] h Φ := by
  have oC := b.2.2.1
  have oF := b.2.2.2.1
  have lt1 : (j : Int) < n := by omega
  have w3 : IntKind.i64.wrap ((j : Int) + 1) = ((j + 1 : Nat) : Int) := wrap_small (by omega) (by omega)
  have hF1 := (List.getElem?_eq_some_iff.1 hF0).1
  have el : (encC m).length = 12 := rfl
  have e1 : (encC m)[1]? = some (.str m.a) := rfl
  have e2 : (encC m)[2]? = some (.str m.b) := rfl
  have e3 : (encC m)[3]? = some (.str m.j) := rfl
  have e4 : (encC m)[4]? = some (.int .i64 m.c) := rfl
  have e5 : (encC m)[5]? = some (.int .i64 m.d) := rfl
  have e6 : (encC m)[6]? = some (.int .i64 m.y) := rfl
  have e7 : (encC m)[7]? = some (.int .i64 m.z) := rfl
  have e8 : (encC m)[8]? = some (.int .i64 m.p) := rfl
  have e9 : (encC m)[9]? = some (.int .i64 m.n) := rfl
  have e10 : (encC m)[10]? = some (.int .i64 m.r) := rfl
  have e11 : (encC m)[11]? = some (.int .i64 m.x) := rfl
  have hC := lt_of_some oC
  -- a text
  have txt : ∀ (s : ByteArray), s.size ≤ 255 → ∃ x h2 y h3, appE (h ++ [LO.own 5 [.int .u8 s.size]]) 5 1 1 w 1 [.int .u8 s.size] = some (.s x, h2) ∧ appE h2 5 1 1 x s.size (strCells s) = some (.s y, h3) ∧ h2[iC]? = some (.own 23 (encC m)) ∧ Bf hb h3 iC iF (encC m) F0 y (P ++ textB s) := by
    intro s hs
    obtain ⟨x, h2, a1, b1⟩ := b.app [LO.own 5 [.int .u8 s.size]] [(s.size : Int)] (by simp; omega)
    obtain ⟨y, h3, a2, b2⟩ := b1.app [] (bytesT s) (by simp [bytesT_len]; omega)
    rw [List.append_nil, bytesT_len, ← bytesT_cells] at a2
    refine ⟨x, h2, y, h3, a1, a2, b1.2.2.1, ?_⟩
    rw [textB_split, ← List.append_assoc]; exact b2
  have byte : ∀ s : ByteArray, s.size ≤ 255 → IntKind.u8.wrap (s.size : Int) = s.size := fun s hs => by simp [IntKind.wrap, IntKind.bits, IntKind.signed]; omega
  have eqn : ∀ c : UInt8, f ≠ c → (((f.toNat : Nat) : Int) == ((c.toNat : Nat) : Int)) = false ∧ ¬ ((f.toNat : Nat) : Int) = ((c.toNat : Nat) : Int) := fun c hc => ⟨by simpa using u8_ne hc, u8_ne hc⟩
  rcases hf with rfl | rfl | rfl | hf
  · obtain ⟨x, h2, y, h3, a1, a2, o2, b2⟩ := txt m.a hm.1
    have fin := hΦ y h3 b2
    have by1 := byte m.a hm.1
    clear txt hΦ
    simp [wpk_skip, wpk_seq, k_cond, wpk_block, wpk_exit, wpk_ret, wpk_goto, wpk_label, wpk_loop, k_ops, k_draw0, t_nil, t_cons, KT_eq, KD_eq, wpo_nil, k_cons, k_step, mt_some, mtk_some, KO_eq, KP_eq, K_normal, K_ret, K_exit, KB_normal, KB_ret, KB_exit, KL_normal, KL_ret, KL_exit, K_goto, KB_goto, KL_goto, KS_goto, KS_ret, KS_normal, KS_exit, k_ret, k_normal, stepE, isCall, calleeE, opE, wantE, odE, odS, odL, odSL, fget, fput, initE, keepF, List.map_cons, List.map_nil, binE, intOp, strOp, shOp, unE, eqpE, eqnE, neqB, ressE, resE, packL, packE, flat1, fcells, fillE, setL, cellsOf_bind, cellsO_own, cellsO_ro, lenE_sl, lenE_nils, lenE_sl0, bound, rep, minE, maxE, Option.getD_some, Option.getD_none, isKey, nlS, List.getElem?_cons_zero, List.getElem?_cons_succ, get_lt, set_lt, get_len, get_len_add, set_len, set_len_add, List.append_assoc, List.cons_append, List.nil_append, -getElem?_pos, l16_1_2, l16_1_1, l16_1, lt1, oF, hn, hjn, hF1, hF0]
    refine k_draw ?_
    simp [wpk_skip, wpk_seq, k_cond, wpk_block, wpk_exit, wpk_ret, wpk_goto, wpk_label, wpk_loop, k_ops, k_draw0, t_nil, t_cons, KT_eq, KD_eq, wpo_nil, k_cons, k_step, mt_some, mtk_some, KO_eq, KP_eq, K_normal, K_ret, K_exit, KB_normal, KB_ret, KB_exit, KL_normal, KL_ret, KL_exit, K_goto, KB_goto, KL_goto, KS_goto, KS_ret, KS_normal, KS_exit, k_ret, k_normal, stepE, isCall, calleeE, opE, wantE, odE, odS, odL, odSL, fget, fput, initE, keepF, List.map_cons, List.map_nil, binE, intOp, strOp, shOp, unE, eqpE, eqnE, neqB, ressE, resE, packL, packE, flat1, fcells, fillE, setL, cellsOf_bind, cellsO_own, cellsO_ro, lenE_sl, lenE_nils, lenE_sl0, bound, rep, minE, maxE, Option.getD_some, Option.getD_none, isKey, nlS, List.getElem?_cons_zero, List.getElem?_cons_succ, get_lt, set_lt, get_len, get_len_add, set_len, set_len_add, List.append_assoc, List.cons_append, List.nil_append, slotsG, slotsE, odT, odsT, optT, partsT, okPairs, okPair, changesE, rdAft, rdO, frLt, nmV, nmVL, nmL, nmS, -getElem?_pos, oC, o2, el, e1, by1, a1, a2, hC, elems, get_lt]
    simp [wpk_skip, wpk_seq, k_cond, wpk_block, wpk_exit, wpk_ret, wpk_goto, wpk_label, wpk_loop, k_ops, k_draw0, t_nil, t_cons, KT_eq, KD_eq, wpo_nil, k_cons, k_step, mt_some, mtk_some, KO_eq, KP_eq, K_normal, K_ret, K_exit, KB_normal, KB_ret, KB_exit, KL_normal, KL_ret, KL_exit, K_goto, KB_goto, KL_goto, KS_goto, KS_ret, KS_normal, KS_exit, k_ret, k_normal, stepE, isCall, calleeE, opE, wantE, odE, odS, odL, odSL, fget, fput, initE, keepF, List.map_cons, List.map_nil, binE, intOp, strOp, shOp, unE, eqpE, eqnE, neqB, ressE, resE, packL, packE, flat1, fcells, fillE, setL, cellsOf_bind, cellsO_own, cellsO_ro, lenE_sl, lenE_nils, lenE_sl0, bound, rep, minE, maxE, Option.getD_some, Option.getD_none, isKey, nlS, List.getElem?_cons_zero, List.getElem?_cons_succ, get_lt, set_lt, get_len, get_len_add, set_len, set_len_add, List.append_assoc, List.cons_append, List.nil_append, -getElem?_pos, w3]
    exact fin
  · obtain ⟨x, h2, y, h3, a1, a2, o2, b2⟩ := txt m.b hm.2.1
    have fin := hΦ y h3 b2
    have by1 := byte m.b hm.2.1
    clear txt hΦ
    simp [wpk_skip, wpk_seq, k_cond, wpk_block, wpk_exit, wpk_ret, wpk_goto, wpk_label, wpk_loop, k_ops, k_draw0, t_nil, t_cons, KT_eq, KD_eq, wpo_nil, k_cons, k_step, mt_some, mtk_some, KO_eq, KP_eq, K_normal, K_ret, K_exit, KB_normal, KB_ret, KB_exit, KL_normal, KL_ret, KL_exit, K_goto, KB_goto, KL_goto, KS_goto, KS_ret, KS_normal, KS_exit, k_ret, k_normal, stepE, isCall, calleeE, opE, wantE, odE, odS, odL, odSL, fget, fput, initE, keepF, List.map_cons, List.map_nil, binE, intOp, strOp, shOp, unE, eqpE, eqnE, neqB, ressE, resE, packL, packE, flat1, fcells, fillE, setL, cellsOf_bind, cellsO_own, cellsO_ro, lenE_sl, lenE_nils, lenE_sl0, bound, rep, minE, maxE, Option.getD_some, Option.getD_none, isKey, nlS, List.getElem?_cons_zero, List.getElem?_cons_succ, get_lt, set_lt, get_len, get_len_add, set_len, set_len_add, List.append_assoc, List.cons_append, List.nil_append, -getElem?_pos, l16_1_2, l16_1_1, l16_1, lt1, oF, hn, hjn, hF1, hF0]
    refine k_draw ?_
    simp [wpk_skip, wpk_seq, k_cond, wpk_block, wpk_exit, wpk_ret, wpk_goto, wpk_label, wpk_loop, k_ops, k_draw0, t_nil, t_cons, KT_eq, KD_eq, wpo_nil, k_cons, k_step, mt_some, mtk_some, KO_eq, KP_eq, K_normal, K_ret, K_exit, KB_normal, KB_ret, KB_exit, KL_normal, KL_ret, KL_exit, K_goto, KB_goto, KL_goto, KS_goto, KS_ret, KS_normal, KS_exit, k_ret, k_normal, stepE, isCall, calleeE, opE, wantE, odE, odS, odL, odSL, fget, fput, initE, keepF, List.map_cons, List.map_nil, binE, intOp, strOp, shOp, unE, eqpE, eqnE, neqB, ressE, resE, packL, packE, flat1, fcells, fillE, setL, cellsOf_bind, cellsO_own, cellsO_ro, lenE_sl, lenE_nils, lenE_sl0, bound, rep, minE, maxE, Option.getD_some, Option.getD_none, isKey, nlS, List.getElem?_cons_zero, List.getElem?_cons_succ, get_lt, set_lt, get_len, get_len_add, set_len, set_len_add, List.append_assoc, List.cons_append, List.nil_append, slotsG, slotsE, odT, odsT, optT, partsT, okPairs, okPair, changesE, rdAft, rdO, frLt, nmV, nmVL, nmL, nmS, -getElem?_pos, oC, o2, el, e2, e3, by1, a1, a2, hC, elems, get_lt]
    simp [wpk_skip, wpk_seq, k_cond, wpk_block, wpk_exit, wpk_ret, wpk_goto, wpk_label, wpk_loop, k_ops, k_draw0, t_nil, t_cons, KT_eq, KD_eq, wpo_nil, k_cons, k_step, mt_some, mtk_some, KO_eq, KP_eq, K_normal, K_ret, K_exit, KB_normal, KB_ret, KB_exit, KL_normal, KL_ret, KL_exit, K_goto, KB_goto, KL_goto, KS_goto, KS_ret, KS_normal, KS_exit, k_ret, k_normal, stepE, isCall, calleeE, opE, wantE, odE, odS, odL, odSL, fget, fput, initE, keepF, List.map_cons, List.map_nil, binE, intOp, strOp, shOp, unE, eqpE, eqnE, neqB, ressE, resE, packL, packE, flat1, fcells, fillE, setL, cellsOf_bind, cellsO_own, cellsO_ro, lenE_sl, lenE_nils, lenE_sl0, bound, rep, minE, maxE, Option.getD_some, Option.getD_none, isKey, nlS, List.getElem?_cons_zero, List.getElem?_cons_succ, get_lt, set_lt, get_len, get_len_add, set_len, set_len_add, List.append_assoc, List.cons_append, List.nil_append, -getElem?_pos, w3]
    exact fin
  · obtain ⟨x, h2, y, h3, a1, a2, o2, b2⟩ := txt m.j hm.2.2
    have fin := hΦ y h3 b2
    have by1 := byte m.j hm.2.2
    clear txt hΦ
    simp [wpk_skip, wpk_seq, k_cond, wpk_block, wpk_exit, wpk_ret, wpk_goto, wpk_label, wpk_loop, k_ops, k_draw0, t_nil, t_cons, KT_eq, KD_eq, wpo_nil, k_cons, k_step, mt_some, mtk_some, KO_eq, KP_eq, K_normal, K_ret, K_exit, KB_normal, KB_ret, KB_exit, KL_normal, KL_ret, KL_exit, K_goto, KB_goto, KL_goto, KS_goto, KS_ret, KS_normal, KS_exit, k_ret, k_normal, stepE, isCall, calleeE, opE, wantE, odE, odS, odL, odSL, fget, fput, initE, keepF, List.map_cons, List.map_nil, binE, intOp, strOp, shOp, unE, eqpE, eqnE, neqB, ressE, resE, packL, packE, flat1, fcells, fillE, setL, cellsOf_bind, cellsO_own, cellsO_ro, lenE_sl, lenE_nils, lenE_sl0, bound, rep, minE, maxE, Option.getD_some, Option.getD_none, isKey, nlS, List.getElem?_cons_zero, List.getElem?_cons_succ, get_lt, set_lt, get_len, get_len_add, set_len, set_len_add, List.append_assoc, List.cons_append, List.nil_append, -getElem?_pos, l16_1_2, l16_1_1, l16_1, lt1, oF, hn, hjn, hF1, hF0]
    refine k_draw ?_
    simp [wpk_skip, wpk_seq, k_cond, wpk_block, wpk_exit, wpk_ret, wpk_goto, wpk_label, wpk_loop, k_ops, k_draw0, t_nil, t_cons, KT_eq, KD_eq, wpo_nil, k_cons, k_step, mt_some, mtk_some, KO_eq, KP_eq, K_normal, K_ret, K_exit, KB_normal, KB_ret, KB_exit, KL_normal, KL_ret, KL_exit, K_goto, KB_goto, KL_goto, KS_goto, KS_ret, KS_normal, KS_exit, k_ret, k_normal, stepE, isCall, calleeE, opE, wantE, odE, odS, odL, odSL, fget, fput, initE, keepF, List.map_cons, List.map_nil, binE, intOp, strOp, shOp, unE, eqpE, eqnE, neqB, ressE, resE, packL, packE, flat1, fcells, fillE, setL, cellsOf_bind, cellsO_own, cellsO_ro, lenE_sl, lenE_nils, lenE_sl0, bound, rep, minE, maxE, Option.getD_some, Option.getD_none, isKey, nlS, List.getElem?_cons_zero, List.getElem?_cons_succ, get_lt, set_lt, get_len, get_len_add, set_len, set_len_add, List.append_assoc, List.cons_append, List.nil_append, slotsG, slotsE, odT, odsT, optT, partsT, okPairs, okPair, changesE, rdAft, rdO, frLt, nmV, nmVL, nmL, nmS, -getElem?_pos, oC, o2, el, e2, e3, by1, a1, a2, hC, elems, get_lt]
    simp [wpk_skip, wpk_seq, k_cond, wpk_block, wpk_exit, wpk_ret, wpk_goto, wpk_label, wpk_loop, k_ops, k_draw0, t_nil, t_cons, KT_eq, KD_eq, wpo_nil, k_cons, k_step, mt_some, mtk_some, KO_eq, KP_eq, K_normal, K_ret, K_exit, KB_normal, KB_ret, KB_exit, KL_normal, KL_ret, KL_exit, K_goto, KB_goto, KL_goto, KS_goto, KS_ret, KS_normal, KS_exit, k_ret, k_normal, stepE, isCall, calleeE, opE, wantE, odE, odS, odL, odSL, fget, fput, initE, keepF, List.map_cons, List.map_nil, binE, intOp, strOp, shOp, unE, eqpE, eqnE, neqB, ressE, resE, packL, packE, flat1, fcells, fillE, setL, cellsOf_bind, cellsO_own, cellsO_ro, lenE_sl, lenE_nils, lenE_sl0, bound, rep, minE, maxE, Option.getD_some, Option.getD_none, isKey, nlS, List.getElem?_cons_zero, List.getElem?_cons_succ, get_lt, set_lt, get_len, get_len_add, set_len, set_len_add, List.append_assoc, List.cons_append, List.nil_append, -getElem?_pos, w3]
    exact fin
  · clear txt
    rcases hf with rfl | rfl | rfl | rfl | rfl | rfl | rfl | rfl
    all_goals
      simp [wpk_skip, wpk_seq, k_cond, wpk_block, wpk_exit, wpk_ret, wpk_goto, wpk_label, wpk_loop, k_ops, k_draw0, t_nil, t_cons, KT_eq, KD_eq, wpo_nil, k_cons, k_step, mt_some, mtk_some, KO_eq, KP_eq, K_normal, K_ret, K_exit, KB_normal, KB_ret, KB_exit, KL_normal, KL_ret, KL_exit, K_goto, KB_goto, KL_goto, KS_goto, KS_ret, KS_normal, KS_exit, k_ret, k_normal, stepE, isCall, calleeE, opE, wantE, odE, odS, odL, odSL, fget, fput, initE, keepF, List.map_cons, List.map_nil, binE, intOp, strOp, shOp, unE, eqpE, eqnE, neqB, ressE, resE, packL, packE, flat1, fcells, fillE, setL, cellsOf_bind, cellsO_own, cellsO_ro, lenE_sl, lenE_nils, lenE_sl0, bound, rep, minE, maxE, Option.getD_some, Option.getD_none, isKey, nlS, List.getElem?_cons_zero, List.getElem?_cons_succ, get_lt, set_lt, get_len, get_len_add, set_len, set_len_add, List.append_assoc, List.cons_append, List.nil_append, -getElem?_pos, l16_1_2, l16_1_1, l16_1, lt1, oF, hn, hjn, hF1, hF0, oC, el, e4, e5, e6, e7, e8, e9, e10, e11, putM, getM, keyEq, hC]
      refine refNum_loop (b.new _) (by omega) _ _ _ _ _ _ _ _ _ (fun w' h' b' => ?_)
      simp [wpk_skip, wpk_seq, k_cond, wpk_block, wpk_exit, wpk_ret, wpk_goto, wpk_label, wpk_loop, k_ops, k_draw0, t_nil, t_cons, KT_eq, KD_eq, wpo_nil, k_cons, k_step, mt_some, mtk_some, KO_eq, KP_eq, K_normal, K_ret, K_exit, KB_normal, KB_ret, KB_exit, KL_normal, KL_ret, KL_exit, K_goto, KB_goto, KL_goto, KS_goto, KS_ret, KS_normal, KS_exit, k_ret, k_normal, stepE, isCall, calleeE, opE, wantE, odE, odS, odL, odSL, fget, fput, initE, keepF, List.map_cons, List.map_nil, binE, intOp, strOp, shOp, unE, eqpE, eqnE, neqB, ressE, resE, packL, packE, flat1, fcells, fillE, setL, cellsOf_bind, cellsO_own, cellsO_ro, lenE_sl, lenE_nils, lenE_sl0, bound, rep, minE, maxE, Option.getD_some, Option.getD_none, isKey, nlS, List.getElem?_cons_zero, List.getElem?_cons_succ, get_lt, set_lt, get_len, get_len_add, set_len, set_len_add, List.append_assoc, List.cons_append, List.nil_append, -getElem?_pos, w3]
      exact hΦ _ _ b'

set_option maxRecDepth 20000 in
set_option maxHeartbeats 8000000 in
theorem refPack_ok {h : LH} {v : SV} {l : List Cm} (r : Rd h 23 12 encC v l) (hl : l.length ≤ 100) (hs : ∀ m ∈ l, S63 m) :
    WPc C 16 [.s v] h fun u h' => Gr h h' ∧ ((l.all okC = true ∧ ∃ w, u = .tup [.s w, .s (.int .i64 0)] ∧ Ow h.length h' 5 encB w (l.flatMap packC)) ∨ (l.all okC = false ∧ u = .tup [.s .nils, .s (.int .i64 1)])) := by
  refine WPc.post fun Ψ hΨ => ?_
  refine WPc.intro (e := e16) rfl (by simp [e16]) ?_
  show WPk C b16 _ _ (KR [.tmp 2, .tmp 3] _)
  have tk12 : ∀ m : Cm, (encC m).take 12 = encC m := fun _ => rfl
  have cl12 : ∀ m : Cm, (encC m).length = 12 := fun _ => rfl
  simp [wpk_skip, wpk_seq, k_cond, wpk_block, wpk_exit, wpk_ret, wpk_goto, wpk_label, wpk_loop, k_ops, k_draw0, t_nil, t_cons, KT_eq, KD_eq, wpo_nil, k_cons, k_step, mt_some, mtk_some, KO_eq, KP_eq, K_normal, K_ret, K_exit, KB_normal, KB_ret, KB_exit, KL_normal, KL_ret, KL_exit, K_goto, KB_goto, KL_goto, KS_goto, KS_ret, KS_normal, KS_exit, k_ret, k_normal, stepE, isCall, calleeE, opE, wantE, odE, odS, odL, odSL, fget, fput, initE, keepF, List.map_cons, List.map_nil, binE, intOp, strOp, shOp, unE, eqpE, eqnE, neqB, ressE, resE, packL, packE, flat1, fcells, fillE, setL, cellsOf_bind, cellsO_own, cellsO_ro, lenE_sl, lenE_nils, lenE_sl0, bound, rep, minE, maxE, Option.getD_some, Option.getD_none, isKey, nlS, List.getElem?_cons_zero, List.getElem?_cons_succ, get_lt, set_lt, get_len, get_len_add, set_len, set_len_add, List.append_assoc, List.cons_append, List.nil_append, -getElem?_pos, b16, s16_3, s16_2, s16_1, r.len]
  refine WPl.inv2 (fun n fr h' => Gr h h' ∧ ∃ k w, k ≤ l.length ∧ n = l.length - k ∧ (∀ m ∈ l.take k, okC m = true) ∧ Ow h.length h' 5 encB w ((l.take k).flatMap packC) ∧ fr = [(4, some (.s w)), (11, some (.s v)), (12, some (.s (.int .i64 l.length))), (13, some (.s (.int .i64 k)))]) ?_ _ _ _ ⟨Gr.refl _, 0, .nils, Nat.zero_le _, rfl, by simp, Ow.nil _ _, rfl⟩
  rintro I hI n fr h' ⟨gr, k, w, hk, rfl, hall, ow, rfl⟩
  refine ⟨by simp [keepF, fget], ?_⟩
  have rl := r.len
  by_cases hlt : k < l.length
  · obtain ⟨i, p, o, ob, vs, rfl, q2, q3, q4, q5, q6⟩ := (r.gr gr).at encC_len hlt
    have w3 : IntKind.i64.wrap ((k : Int) + 1) = ((k + 1 : Nat) : Int) := wrap_small (by omega) (by omega)
    have ht : l.take (k + 1) = l.take k ++ [l[k]] := List.take_succ_eq_append_getElem hlt
    have hmem : l[k] ∈ l := List.getElem_mem hlt
    generalize hm : l[k] = m at *
    have st12 : setL [SV.int .i64 0, SV.str ⟨#[]⟩, SV.str ⟨#[]⟩, SV.str ⟨#[]⟩, SV.int .i64 0, SV.int .i64 0, SV.int .i64 0, SV.int .i64 0, SV.int .i64 0, SV.int .i64 0, SV.int .i64 0, SV.int .i64 0] 0 (encC m) = encC m := rfl
    have e0 : (encC m)[0]? = some (.int .i64 m.k) := rfl
    simp [wpk_skip, wpk_seq, k_cond, wpk_block, wpk_exit, wpk_ret, wpk_goto, wpk_label, wpk_loop, k_ops, k_draw0, t_nil, t_cons, KT_eq, KD_eq, wpo_nil, k_cons, k_step, mt_some, mtk_some, KO_eq, KP_eq, K_normal, K_ret, K_exit, KB_normal, KB_ret, KB_exit, KL_normal, KL_ret, KL_exit, K_goto, KB_goto, KL_goto, KS_goto, KS_ret, KS_normal, KS_exit, k_ret, k_normal, stepE, isCall, calleeE, opE, wantE, odE, odS, odL, odSL, fget, fput, initE, keepF, List.map_cons, List.map_nil, binE, intOp, strOp, shOp, unE, eqpE, eqnE, neqB, ressE, resE, packL, packE, flat1, fcells, fillE, setL, cellsOf_bind, cellsO_own, cellsO_ro, lenE_sl, lenE_nils, lenE_sl0, bound, rep, minE, maxE, Option.getD_some, Option.getD_none, isKey, nlS, List.getElem?_cons_zero, List.getElem?_cons_succ, get_lt, set_lt, get_len, get_len_add, set_len, set_len_add, List.append_assoc, List.cons_append, List.nil_append, -getElem?_pos, l16_2_2, l16_2_1, l16_2, hlt, q2, q3, q4, q5, cl12, tk12, st12]
    refine WPc.go (refCheck_ok m (hs m hmem) _) ?_
    rintro _ h1 ⟨g1, rfl⟩
    cases hok : okC m with
    | false =>
      have hno : l.all okC = false := by
        rw [Bool.eq_false_iff]
        intro ha
        rw [List.all_eq_true.1 ha m hmem] at hok; cases hok
      have fin := hΨ _ _ ⟨(gr.app _).trans g1, .inr ⟨hno, rfl⟩⟩
      clear hI hΨ
      simp [wpk_skip, wpk_seq, k_cond, wpk_block, wpk_exit, wpk_ret, wpk_goto, wpk_label, wpk_loop, k_ops, k_draw0, t_nil, t_cons, KT_eq, KD_eq, wpo_nil, k_cons, k_step, mt_some, mtk_some, KO_eq, KP_eq, K_normal, K_ret, K_exit, KB_normal, KB_ret, KB_exit, KL_normal, KL_ret, KL_exit, K_goto, KB_goto, KL_goto, KS_goto, KS_ret, KS_normal, KS_exit, k_ret, k_normal, stepE, isCall, calleeE, opE, wantE, odE, odS, odL, odSL, fget, fput, initE, keepF, List.map_cons, List.map_nil, binE, intOp, strOp, shOp, unE, eqpE, eqnE, neqB, ressE, resE, packL, packE, flat1, fcells, fillE, setL, cellsOf_bind, cellsO_own, cellsO_ro, lenE_sl, lenE_nils, lenE_sl0, bound, rep, minE, maxE, Option.getD_some, Option.getD_none, isKey, nlS, List.getElem?_cons_zero, List.getElem?_cons_succ, get_lt, set_lt, get_len, get_len_add, set_len, set_len_add, List.append_assoc, List.cons_append, List.nil_append, -getElem?_pos, ]
      exact fin
    | true =>
      have hsh := short_ok hok
      have hk12 := (ok_parts hok).1
      have hpl := packC_len hsh
      have hfl := packs_len _ hall
      have hkl : (l.take k).length = k := by rw [List.length_take]; omega
      obtain ⟨L, hL⟩ : ∃ L, L = (l.take k).flatMap packC := ⟨_, rfl⟩
      rw [← hL] at ow hfl
      have oC := g1.get (show (h' ++ [LO.own 23 (encC m)])[h'.length]? = _ from get_len)
      have gg : Gr h h1 := (gr.app _).trans g1
      have ow1 := (ow.gr (Gr.self h' [LO.own 23 (encC m)])).gr g1
      have wk : IntKind.u8.wrap m.k = m.k % 256 := by simp [IntKind.wrap, IntKind.bits, IntKind.signed]
      have hA := ow1.app (z := 1) encB_len (n := 1) (y := 1) (by omega) (by omega) (encB (m.k % 256)) [LO.own 5 [.int .u8 (m.k % 256)]]
      obtain ⟨f1, f2⟩ := Ow.step gg ow1 (m.k % 256) [LO.own 5 [.int .u8 (m.k % 256)]] (n := L.length + 1) (cs := encB (m.k % 256)) (m := 1) rfl rfl rfl
      have oC2 := Ow.kill_get ow1 oC (fun vs e => by cases e) [LO.own 5 [.int .u8 (m.k % 256)]] [LO.own 5 (L.flatMap encB ++ encB (m.k % 256))]
      have hhl : (h1 ++ [LO.own 5 [.int .u8 (m.k % 256)]]).length = h1.length + 1 := by simp
      rw [hhl] at hA
      have hHl : (kill w (h1 ++ [LO.own 5 [.int .u8 (m.k % 256)]]) ++ [LO.own 5 (L.flatMap encB ++ encB (m.k % 256))]).length = h1.length + 2 := by rw [List.length_append, kill_len, hhl]; rfl
      generalize kill w (h1 ++ [LO.own 5 [.int .u8 (m.k % 256)]]) ++ [LO.own 5 (L.flatMap encB ++ encB (m.k % 256))] = H at *
      have hA' : appE (h1 ++ [LO.own 5 [.int .u8 (m.k % 256)]]) 5 1 1 w 1 [.int .u8 (m.k % 256)] = some (.s (.sl (h1.length + 1) 0 0 (L.length + 1)), H) := hA
      have sl : (fieldsB m.k).size = (fieldsL m.k).length := by unfold fieldsB ByteArray.size; simp
      have hfl6 := fields_len m.k
      have bf0 : Bf h (H ++ [fldO, .own 5 (strCells (fieldsB m.k))]) h'.length (H.length + 1) (encC m) (strCells (fieldsB m.k)) (.sl (h1.length + 1) 0 0 (L.length + 1)) (L ++ [m.k % 256]) :=
        ⟨f1.app _, f2.gr (Gr.self _ _), (Gr.self _ _).get oC2, get_len_add, fun p o n e => by injection e with e1; omega⟩
      have scl : (strCells (fieldsB m.k)).length = (fieldsL m.k).length := by unfold strCells; rw [List.length_map, fields_data]
      have rf := refFields_ok m.k
      simp [wpk_skip, wpk_seq, k_cond, wpk_block, wpk_exit, wpk_ret, wpk_goto, wpk_label, wpk_loop, k_ops, k_draw0, t_nil, t_cons, KT_eq, KD_eq, wpo_nil, k_cons, k_step, mt_some, mtk_some, KO_eq, KP_eq, K_normal, K_ret, K_exit, KB_normal, KB_ret, KB_exit, KL_normal, KL_ret, KL_exit, K_goto, KB_goto, KL_goto, KS_goto, KS_ret, KS_normal, KS_exit, k_ret, k_normal, stepE, isCall, calleeE, opE, wantE, odE, odS, odL, odSL, fget, fput, initE, keepF, List.map_cons, List.map_nil, binE, intOp, strOp, shOp, unE, eqpE, eqnE, neqB, ressE, resE, packL, packE, flat1, fcells, fillE, setL, cellsOf_bind, cellsO_own, cellsO_ro, lenE_sl, lenE_nils, lenE_sl0, bound, rep, minE, maxE, Option.getD_some, Option.getD_none, isKey, nlS, List.getElem?_cons_zero, List.getElem?_cons_succ, get_lt, set_lt, get_len, get_len_add, set_len, set_len_add, List.append_assoc, List.cons_append, List.nil_append, -getElem?_pos, oC, e0, wk, elems, hA', oC2, rf]
      rw [sl]
      refine WPl.post (fun x fr' h2 => x = .exit 2 ∧ Gr h h2 ∧ ∃ y, Ow h.length h2 5 encB y (L ++ packC m) ∧ fr' = [(4, some (.s y)), (11, some (.s (.sl i p o l.length))), (12, some (.s (.int .i64 l.length))), (13, some (.s (.int .i64 k)))]) (fun Φ hΦ => ?_) ?_
      · refine WPl.inv2 (fun n fr h2 => ∃ j y, j ≤ (fieldsL m.k).length ∧ n = (fieldsL m.k).length - j ∧ Bf h h2 h'.length (H.length + 1) (encC m) (strCells (fieldsB m.k)) y (L ++ (m.k % 256 :: ((fieldsL m.k).take j).flatMap (packF m))) ∧
          fr = [(4, some (.s y)), (6, some (.s (.ptr h'.length 0))), (11, some (.s (.sl i p o l.length))), (12, some (.s (.int .i64 l.length))), (13, some (.s (.int .i64 k))), (29, some (.s (.sl (H.length + 1) 0 0 (fieldsL m.k).length))), (30, some (.s (.int .i64 (fieldsL m.k).length))), (31, some (.s (.int .i64 j)))]) ?_ _ _ _
          ⟨0, _, Nat.zero_le _, rfl, by simpa using bf0, by simp⟩
        rintro J hJ n fr h2 ⟨j, y, hj, rfl, bf, rfl⟩
        refine ⟨by simp [keepF, fget], ?_⟩
        by_cases hjt : j < (fieldsL m.k).length
        · obtain ⟨f, hf⟩ : ∃ f, (fieldsL m.k)[j]? = some f := ⟨_, List.getElem?_eq_getElem hjt⟩
          have hmf := List.mem_of_getElem? hf
          have n63 := no63 hk12 f hmf
          have hfa := fieldsL_all m.k f hmf
          have hfa' : f = 73 ∨ f = 75 ∨ f = 74 ∨ f = 67 ∨ f = 68 ∨ f = 89 ∨ f = 90 ∨ f = 80 ∨ f = 65 ∨ f = 82 ∨ f = 70 := hfa.resolve_left n63
          have hcell : (strCells (fieldsB m.k))[j]? = some (.int .u8 f.toNat) := by unfold strCells; rw [List.getElem?_map, fields_data, hf]; rfl
          have hflj := flat_le m hsh ((fieldsL m.k).take j)
          have htj : ((fieldsL m.k).take j).length ≤ 6 := by rw [List.length_take]; omega
          have ht2 : (fieldsL m.k).take (j + 1) = (fieldsL m.k).take j ++ [f] := by rw [List.take_add_one, hf]; rfl
          refine refPack_step bf (by rw [List.length_append, List.length_cons]; omega) hsh trivial hfa' hcell _ hjt (by omega) (by omega) _ _ _ _ (fun w' h3 b' => ?_)
          rw [KL_normal]
          refine ⟨(fieldsL m.k).length - (j + 1), by omega, hJ _ _ _ ⟨j + 1, w', hjt, rfl, ?_, by simp [keepF, fget]⟩⟩
          rw [ht2, List.flatMap_append, List.flatMap_singleton, ← List.cons_append, ← List.append_assoc]
          exact b'
        · obtain rfl : j = (fieldsL m.k).length := by omega
          rw [List.take_length] at bf
          have fin := hΦ (.exit 2) [(4, some (.s y)), (11, some (.s (.sl i p o l.length))), (12, some (.s (.int .i64 l.length))), (13, some (.s (.int .i64 k)))] h2 ⟨rfl, bf.1, y, bf.2.1, rfl⟩
          clear hJ hΦ
          simp [wpk_skip, wpk_seq, k_cond, wpk_block, wpk_exit, wpk_ret, wpk_goto, wpk_label, wpk_loop, k_ops, k_draw0, t_nil, t_cons, KT_eq, KD_eq, wpo_nil, k_cons, k_step, mt_some, mtk_some, KO_eq, KP_eq, K_normal, K_ret, K_exit, KB_normal, KB_ret, KB_exit, KL_normal, KL_ret, KL_exit, K_goto, KB_goto, KL_goto, KS_goto, KS_ret, KS_normal, KS_exit, k_ret, k_normal, stepE, isCall, calleeE, opE, wantE, odE, odS, odL, odSL, fget, fput, initE, keepF, List.map_cons, List.map_nil, binE, intOp, strOp, shOp, unE, eqpE, eqnE, neqB, ressE, resE, packL, packE, flat1, fcells, fillE, setL, cellsOf_bind, cellsO_own, cellsO_ro, lenE_sl, lenE_nils, lenE_sl0, bound, rep, minE, maxE, Option.getD_some, Option.getD_none, isKey, nlS, List.getElem?_cons_zero, List.getElem?_cons_succ, get_lt, set_lt, get_len, get_len_add, set_len, set_len_add, List.append_assoc, List.cons_append, List.nil_append, -getElem?_pos, l16_1_2, l16_1_1, l16_1]
          exact fin
      · rintro x fr' h2 ⟨rfl, g2, y, ow2, rfl⟩
        have fin := hI (l.length - (k + 1)) _ h2 ⟨g2, k + 1, y, hlt, rfl, by
          intro x hx
          rw [ht] at hx
          rcases List.mem_append.1 hx with hx | hx
          · exact hall x hx
          · rw [List.mem_singleton.1 hx]; exact hok, by rw [ht, List.flatMap_append, List.flatMap_singleton, ← hL]; exact ow2, rfl⟩
        clear hI hΨ
        simp [wpk_skip, wpk_seq, k_cond, wpk_block, wpk_exit, wpk_ret, wpk_goto, wpk_label, wpk_loop, k_ops, k_draw0, t_nil, t_cons, KT_eq, KD_eq, wpo_nil, k_cons, k_step, mt_some, mtk_some, KO_eq, KP_eq, K_normal, K_ret, K_exit, KB_normal, KB_ret, KB_exit, KL_normal, KL_ret, KL_exit, K_goto, KB_goto, KL_goto, KS_goto, KS_ret, KS_normal, KS_exit, k_ret, k_normal, stepE, isCall, calleeE, opE, wantE, odE, odS, odL, odSL, fget, fput, initE, keepF, List.map_cons, List.map_nil, binE, intOp, strOp, shOp, unE, eqpE, eqnE, neqB, ressE, resE, packL, packE, flat1, fcells, fillE, setL, cellsOf_bind, cellsO_own, cellsO_ro, lenE_sl, lenE_nils, lenE_sl0, bound, rep, minE, maxE, Option.getD_some, Option.getD_none, isKey, nlS, List.getElem?_cons_zero, List.getElem?_cons_succ, get_lt, set_lt, get_len, get_len_add, set_len, set_len_add, List.append_assoc, List.cons_append, List.nil_append, -getElem?_pos, w3]
        exact ⟨_, by omega, fin⟩
  · obtain rfl : k = l.length := by omega
    rw [List.take_length] at hall ow
    have fin := hΨ _ _ ⟨gr, .inl ⟨List.all_eq_true.2 hall, w, rfl, ow⟩⟩
    clear hI hΨ
    simp [wpk_skip, wpk_seq, k_cond, wpk_block, wpk_exit, wpk_ret, wpk_goto, wpk_label, wpk_loop, k_ops, k_draw0, t_nil, t_cons, KT_eq, KD_eq, wpo_nil, k_cons, k_step, mt_some, mtk_some, KO_eq, KP_eq, K_normal, K_ret, K_exit, KB_normal, KB_ret, KB_exit, KL_normal, KL_ret, KL_exit, K_goto, KB_goto, KL_goto, KS_goto, KS_ret, KS_normal, KS_exit, k_ret, k_normal, stepE, isCall, calleeE, opE, wantE, odE, odS, odL, odSL, fget, fput, initE, keepF, List.map_cons, List.map_nil, binE, intOp, strOp, shOp, unE, eqpE, eqnE, neqB, ressE, resE, packL, packE, flat1, fcells, fillE, setL, cellsOf_bind, cellsO_own, cellsO_ro, lenE_sl, lenE_nils, lenE_sl0, bound, rep, minE, maxE, Option.getD_some, Option.getD_none, isKey, nlS, List.getElem?_cons_zero, List.getElem?_cons_succ, get_lt, set_lt, get_len, get_len_add, set_len, set_len_add, List.append_assoc, List.cons_append, List.nil_append, -getElem?_pos, l16_2_2, l16_2_1, l16_2, hlt]
    exact fin
end Go.Proofs.YtbgfcgmbihhlbaaDoor.Ev.CW
