/- EnactPlays on the small machine. -/
import Derived.Test.YtcimcccnhbbncaaEnactGrows
import Derived.Test.YtcimcccnhbbncaaRrA
set_option linter.unusedSimpArgs false
set_option linter.unusedVariables false
namespace Go.Proofs.Ytcimcccnhbbncaa.Ev.CE
open Go

namespace Pl
def rateT : List Int := [250000, 300000, 190000, 0, 1000000, 333333, 500000, 1, 125000, 999999]
def rateF (n : Int) : Int := if n.tmod 29 = 28 then n else rateT.getD (n % 10).toNat 0
def rateR (n : Int) : List LO := if n.tmod 29 = 28 then [] else [.own 3 (rateT.map (.int .i64))]
theorem rate_ok (n : Int) (h : LH) : callX C 28 [.s (.int .i64 n)] h = some (.s (.int .i64 (rateF n)), h ++ rateR n) := by
  apply callX_wp
  refine WPc.intro (e := e28) rfl (by simp [e28]) ?_
  show WPk C b28 _ _ (KR [.tmp 2] _)
  unfold rateF rateR
  by_cases e0 : n.tmod 29 = 28
  · simp [wpk_skip, wpk_seq, k_cond, wpk_block, wpk_exit, wpk_ret, wpk_loop, k_ops, k_draw0, t_nil, t_cons, KT_eq, KD_eq, wpo_nil, k_cons, k_step, mt_some, mtk_some, KO_eq, KP_eq, K_normal, K_ret, K_exit, KB_normal, KB_ret, KB_exit, KL_normal, KL_ret, KL_exit, k_ret, k_normal, stepE, isCall, calleeE, opE, wantE, odE, odS, odL, odSL, fget, fput, initE, keepF, List.map_cons, List.map_nil, binE, intOp, strOp, shOp, unE, eqpE, eqnE, neqB, ressE, resE, packL, packE, flat1, fcells, fillE, setL, cellsOf_bind, cellsO_own, cellsO_ro, lenE_sl, lenE_nils, lenE_sl0, bound, rep, minE, maxE, List.getElem?_cons_zero, List.getElem?_cons_succ, get_lt, set_lt, get_len, get_len_add, set_len, set_len_add, List.append_assoc, List.cons_append, List.nil_append, -getElem?_pos, b28, s28_2, s28_1, e0]
  · have c1 := Int.emod_lt_of_pos n (show (0:Int) < 10 by omega)
    have c2 := Int.emod_nonneg n (show (10:Int) ≠ 0 by omega)
    have w := fun h => within_ok n 10 (by omega) h
    generalize n % 10 = r at c1 c2 w
    have hr : r = 0 ∨ r = 1 ∨ r = 2 ∨ r = 3 ∨ r = 4 ∨ r = 5 ∨ r = 6 ∨ r = 7 ∨ r = 8 ∨ r = 9 := by omega
    simp [wpk_skip, wpk_seq, k_cond, wpk_block, wpk_exit, wpk_ret, wpk_loop, k_ops, k_draw0, t_nil, t_cons, KT_eq, KD_eq, wpo_nil, k_cons, k_step, mt_some, mtk_some, KO_eq, KP_eq, K_normal, K_ret, K_exit, KB_normal, KB_ret, KB_exit, KL_normal, KL_ret, KL_exit, k_ret, k_normal, stepE, isCall, calleeE, opE, wantE, odE, odS, odL, odSL, fget, fput, initE, keepF, List.map_cons, List.map_nil, binE, intOp, strOp, shOp, unE, eqpE, eqnE, neqB, ressE, resE, packL, packE, flat1, fcells, fillE, setL, cellsOf_bind, cellsO_own, cellsO_ro, lenE_sl, lenE_nils, lenE_sl0, bound, rep, minE, maxE, List.getElem?_cons_zero, List.getElem?_cons_succ, get_lt, set_lt, get_len, get_len_add, set_len, set_len_add, List.append_assoc, List.cons_append, List.nil_append, -getElem?_pos, b28, s28_2, s28_1, e0, w, c2, c1]
    rcases hr with rfl | rfl | rfl | rfl | rfl | rfl | rfl | rfl | rfl | rfl <;> simp [wpk_skip, wpk_seq, k_cond, wpk_block, wpk_exit, wpk_ret, wpk_loop, k_ops, k_draw0, t_nil, t_cons, KT_eq, KD_eq, wpo_nil, k_cons, k_step, mt_some, mtk_some, KO_eq, KP_eq, K_normal, K_ret, K_exit, KB_normal, KB_ret, KB_exit, KL_normal, KL_ret, KL_exit, k_ret, k_normal, stepE, isCall, calleeE, opE, wantE, odE, odS, odL, odSL, fget, fput, initE, keepF, List.map_cons, List.map_nil, binE, intOp, strOp, shOp, unE, eqpE, eqnE, neqB, ressE, resE, packL, packE, flat1, fcells, fillE, setL, cellsOf_bind, cellsO_own, cellsO_ro, lenE_sl, lenE_nils, lenE_sl0, bound, rep, minE, maxE, List.getElem?_cons_zero, List.getElem?_cons_succ, get_lt, set_lt, get_len, get_len_add, set_len, set_len_add, List.append_assoc, List.cons_append, List.nil_append, rateT]
theorem rate_64 {n : Int} (hn : is64 n) : is64 (rateF n) := by
  unfold rateF
  split
  · exact hn
  · have c1 := Int.emod_lt_of_pos n (show (0:Int) < 10 by omega)
    have c2 := Int.emod_nonneg n (show (10:Int) ≠ 0 by omega)
    generalize n % 10 = r at c1 c2
    have hr : r = 0 ∨ r = 1 ∨ r = 2 ∨ r = 3 ∨ r = 4 ∨ r = 5 ∨ r = 6 ∨ r = 7 ∨ r = 8 ∨ r = 9 := by omega
    rcases hr with rfl | rfl | rfl | rfl | rfl | rfl | rfl | rfl | rfl | rfl <;> simp [rateT, is64]


end Pl

theorem bytes_self (a : ByteArray) : (a == a) = true := by
  cases a
  show ((_ : Array UInt8) == _) = true
  exact beq_self_eq_true _
/-- A change of the program's table leaves the document's as it was, and the other way round. -/
theorem Ch.rt {b b' : Nat} {h h' : LH} {i i' : Nat} {v v' : SV} {l l' : List Ro} (c : Ch i v h h') (t : Tb b h i v l) (q : Rt b' h i' v' l') : Rt b' h' i' v' l' := by
  have keep : ∀ (k : Nat) (o : LO), h[k]? = some o → (∀ t' cs, o = LO.own t' cs → t' ≠ 79 ∧ t' ≠ 63) → (∃ t' cs, o = LO.own t' cs) → h'[k]? = some o := by
    rintro k o ho hne ⟨t', cs, rfl⟩
    obtain ⟨n1, n2⟩ := hne _ _ rfl
    rw [c.same k (lt_of_some ho) ?_ ?_, ho]
    · rintro rfl
      have := t.obj
      rw [ho] at this
      cases this; exact n1 rfl
    · rintro ⟨p, o, n, rfl⟩
      rcases t.rows with ⟨_, e⟩ | ⟨j, _, r2, r3⟩
      · cases e
      · cases r2
        rw [ho] at r3
        cases r3; exact n2 rfl
  refine ⟨q.base, keep _ _ q.obj (fun t' cs e => by cases e; decide) ⟨_, _, rfl⟩, ?_, q.len⟩
  rcases q.rows with r | ⟨j, r1, r2, r3⟩
  · exact .inl r
  · exact .inr ⟨j, r1, r2, keep _ _ r3 (fun t' cs e => by cases e; decide) ⟨_, _, rfl⟩⟩
theorem Ch.tb {b b' : Nat} {h h' : LH} {i i' : Nat} {v v' : SV} {l l' : List Ro} (c : Ch i' v' h h') (q : Rt b' h i' v' l') (t : Tb b h i v l) : Tb b h' i v l := by
  have keep : ∀ (k : Nat) (o : LO), h[k]? = some o → (∀ t' cs, o = LO.own t' cs → t' ≠ 49 ∧ t' ≠ 73) → (∃ t' cs, o = LO.own t' cs) → h'[k]? = some o := by
    rintro k o ho hne ⟨t', cs, rfl⟩
    obtain ⟨n1, n2⟩ := hne _ _ rfl
    rw [c.same k (lt_of_some ho) ?_ ?_, ho]
    · rintro rfl
      have := q.obj
      rw [ho] at this
      cases this; exact n1 rfl
    · rintro ⟨p, o, n, rfl⟩
      rcases q.rows with ⟨_, e⟩ | ⟨j, _, r2, r3⟩
      · cases e
      · cases r2
        rw [ho] at r3
        cases r3; exact n2 rfl
  refine ⟨t.base, keep _ _ t.obj (fun t' cs e => by cases e; decide) ⟨_, _, rfl⟩, ?_, t.len⟩
  rcases t.rows with r | ⟨j, r1, r2, r3⟩
  · exact .inl r
  · exact .inr ⟨j, r1, r2, keep _ _ r3 (fun t' cs e => by cases e; decide) ⟨_, _, rfl⟩⟩

def names : List ByteArray := [⟨#[117, 107]⟩, ⟨#[100, 101]⟩, ⟨#[]⟩, ⟨#[117, 107, 50]⟩]

set_option maxRecDepth 20000 in
set_option maxHeartbeats 8000000 in
theorem enactPlays_ok {h0 : LH} {av : SV} {zs : List Act} (ha : RowA h0 68 encA av zs) : ∃ h', callX C 11 [.s av] h0 = some (.s (.bool true), h') ∧ True := by
  suffices w : WPc C 11 [.s av] h0 fun u _ => u = .s (.bool true) by
    obtain ⟨v, h', e, rfl⟩ := w
    exact ⟨h', e, trivial⟩
  refine WPc.post fun Ψ hΨ => ?_
  refine WPc.intro (e := e11) rfl (by simp [e11]) ?_
  show WPk C b11 _ _ (KR [.tmp 2] _)
  have rA := ha.rd encA_len
  simp [wpk_skip, wpk_seq, k_cond, wpk_block, wpk_exit, wpk_ret, wpk_loop, k_ops, k_draw0, t_nil, t_cons, KT_eq, KD_eq, wpo_nil, k_cons, k_step, mt_some, mtk_some, KO_eq, KP_eq, K_normal, K_ret, K_exit, KB_normal, KB_ret, KB_exit, KL_normal, KL_ret, KL_exit, k_ret, k_normal, stepE, isCall, calleeE, opE, wantE, odE, odS, odL, odSL, fget, fput, initE, keepF, List.map_cons, List.map_nil, binE, intOp, strOp, shOp, unE, eqpE, eqnE, neqB, ressE, resE, packL, packE, flat1, fcells, fillE, setL, cellsOf_bind, cellsO_own, cellsO_ro, lenE_sl, lenE_nils, lenE_sl0, bound, rep, minE, maxE, List.getElem?_cons_zero, List.getElem?_cons_succ, get_lt, set_lt, get_len, get_len_add, set_len, set_len_add, List.append_assoc, List.cons_append, List.nil_append, -getElem?_pos, b11, s11_1, s11_2, s11_3, new_ok]
  refine WPl.post (fun x fr' h' => x = .exit 0 ∧ fr' = [(3, some (.s (.ptr h0.length 0))), (4, some (.s (.ptr (h0.length + 1) 0)))] ∧ ∃ v w l, Tb h0.length h' h0.length v l ∧ Rt h0.length h' (h0.length + 1) w l) (fun Φ hΦ => ?_) ?_
  · refine WPl.inv2 (fun m fr h' => Gr h0 h' ∧ ∃ (k : Nat) (v w : SV) (l : List Ro), k ≤ zs.length ∧ m = zs.length - k ∧ Tb h0.length h' h0.length v l ∧ Rt h0.length h' (h0.length + 1) w l ∧
      fr = [(0, some (.s av)), (3, some (.s (.ptr h0.length 0))), (4, some (.s (.ptr (h0.length + 1) 0))), (5, some (.s (.int .i64 k)))]) ?_ _ _ _ ⟨Gr.self _ _, 0, _, _, [], Nat.zero_le _, rfl, ⟨Nat.le_refl _, get_len, Ow.nil _ _, by simp⟩, ⟨by omega, get_len_add, Ow.nil _ _, by simp⟩, by simp⟩
    rintro I hI m fr h1 ⟨gr, k, v, w, l, hk, rfl, t, q, rfl⟩
    refine ⟨by simp [keepF, fget], ?_⟩
    have rl := (rA.gr gr).len
    by_cases hlt : k < zs.length
    case neg =>
      simp [wpk_skip, wpk_seq, k_cond, wpk_block, wpk_exit, wpk_ret, wpk_loop, k_ops, k_draw0, t_nil, t_cons, KT_eq, KD_eq, wpo_nil, k_cons, k_step, mt_some, mtk_some, KO_eq, KP_eq, K_normal, K_ret, K_exit, KB_normal, KB_ret, KB_exit, KL_normal, KL_ret, KL_exit, k_ret, k_normal, stepE, isCall, calleeE, opE, wantE, odE, odS, odL, odSL, fget, fput, initE, keepF, List.map_cons, List.map_nil, binE, intOp, strOp, shOp, unE, eqpE, eqnE, neqB, ressE, resE, packL, packE, flat1, fcells, fillE, setL, cellsOf_bind, cellsO_own, cellsO_ro, lenE_sl, lenE_nils, lenE_sl0, bound, rep, minE, maxE, List.getElem?_cons_zero, List.getElem?_cons_succ, get_lt, set_lt, get_len, get_len_add, set_len, set_len_add, List.append_assoc, List.cons_append, List.nil_append, -getElem?_pos, l11_0, rl, hlt]
      exact hΦ _ _ _ ⟨rfl, rfl, v, w, l, t, q⟩
    by_cases h28 : k < 28
    case neg =>
      have h28' : ¬ (k : Int) < 28 := by omega
      simp [wpk_skip, wpk_seq, k_cond, wpk_block, wpk_exit, wpk_ret, wpk_loop, k_ops, k_draw0, t_nil, t_cons, KT_eq, KD_eq, wpo_nil, k_cons, k_step, mt_some, mtk_some, KO_eq, KP_eq, K_normal, K_ret, K_exit, KB_normal, KB_ret, KB_exit, KL_normal, KL_ret, KL_exit, k_ret, k_normal, stepE, isCall, calleeE, opE, wantE, odE, odS, odL, odSL, fget, fput, initE, keepF, List.map_cons, List.map_nil, binE, intOp, strOp, shOp, unE, eqpE, eqnE, neqB, ressE, resE, packL, packE, flat1, fcells, fillE, setL, cellsOf_bind, cellsO_own, cellsO_ro, lenE_sl, lenE_nils, lenE_sl0, bound, rep, minE, maxE, List.getElem?_cons_zero, List.getElem?_cons_succ, get_lt, set_lt, get_len, get_len_add, set_len, set_len_add, List.append_assoc, List.cons_append, List.nil_append, -getElem?_pos, l11_0, rl, hlt, h28, h28']
      exact hΦ _ _ _ ⟨rfl, rfl, v, w, l, t, q⟩
    have h28' : (k : Int) < 28 := by omega
    obtain ⟨j0, q0, o0, ob0, vs0, rfl, c1, c2, c3, c4, -⟩ := (rA.gr gr).at encA_len hlt
    have c5 := lt_of_some c1
    simp only [encA] at c4
    generalize zs[k] = x at *
    have w3 : IntKind.i64.wrap ((k : Int) + 1) = ((k + 1 : Nat) : Int) := wrap_small (by omega) (by omega)
    have y0 := fun h => within_ok x.j 11 (by omega) h
    have b0 : 0 ≤ x.j % 11 ∧ x.j % 11 < 11 := by omega
    obtain ⟨z, hz⟩ : ∃ z : Nat, (x.j % 11).tmod 4 = z := ⟨((x.j % 11).tmod 4).toNat, by rw [Int.tmod_eq_emod_of_nonneg b0.1]; omega⟩
    have z4 : z < 4 := by rw [Int.tmod_eq_emod_of_nonneg b0.1] at hz; omega
    have z4' : (z : Int) < 4 := by omega
    generalize x.j % 11 = jj at *
    obtain ⟨J, hJ⟩ : ∃ J, ([.str ⟨#[117, 107]⟩, .str ⟨#[100, 101]⟩, .str ⟨#[]⟩, .str ⟨#[117, 107, 50]⟩] : List SV)[z]? = some (.str J) := by
      have : z = 0 ∨ z = 1 ∨ z = 2 ∨ z = 3 := by omega
      rcases this with rfl | rfl | rfl | rfl <;> exact ⟨_, rfl⟩
    have t1 := t.gr (Gr.self h1 [LO.own 68 [.int .i64 x.j, .int .i64 x.y, .int .i64 x.r, .int .i64 x.p, .bool x.raw], .own 9 [.str ⟨#[117, 107]⟩, .str ⟨#[100, 101]⟩, .str ⟨#[]⟩, .str ⟨#[117, 107, 50]⟩]])
    have q1 := q.gr (Gr.self h1 [LO.own 68 [.int .i64 x.j, .int .i64 x.y, .int .i64 x.r, .int .i64 x.p, .bool x.raw], .own 9 [.str ⟨#[117, 107]⟩, .str ⟨#[100, 101]⟩, .str ⟨#[]⟩, .str ⟨#[117, 107, 50]⟩]])
    have gr1 := gr.trans (Gr.self h1 [LO.own 68 [.int .i64 x.j, .int .i64 x.y, .int .i64 x.r, .int .i64 x.p, .bool x.raw], .own 9 [.str ⟨#[117, 107]⟩, .str ⟨#[100, 101]⟩, .str ⟨#[]⟩, .str ⟨#[117, 107, 50]⟩]])
    simp [wpk_skip, wpk_seq, k_cond, wpk_block, wpk_exit, wpk_ret, wpk_loop, k_ops, k_draw0, t_nil, t_cons, KT_eq, KD_eq, wpo_nil, k_cons, k_step, mt_some, mtk_some, KO_eq, KP_eq, K_normal, K_ret, K_exit, KB_normal, KB_ret, KB_exit, KL_normal, KL_ret, KL_exit, k_ret, k_normal, stepE, isCall, calleeE, opE, wantE, odE, odS, odL, odSL, fget, fput, initE, keepF, List.map_cons, List.map_nil, binE, intOp, strOp, shOp, unE, eqpE, eqnE, neqB, ressE, resE, packL, packE, flat1, fcells, fillE, setL, cellsOf_bind, cellsO_own, cellsO_ro, lenE_sl, lenE_nils, lenE_sl0, bound, rep, minE, maxE, List.getElem?_cons_zero, List.getElem?_cons_succ, get_lt, set_lt, get_len, get_len_add, set_len, set_len_add, List.append_assoc, List.cons_append, List.nil_append, -getElem?_pos, l11_0, l11_0_1, rl, hlt, h28, h28', c1, c2, c3, c4, c5, y0, hz, z4, z4', hJ]
    refine k_draw ?_
    have y1 := fun h => within_ok x.y 6 (by omega) h
    have y2 := fun h => Pl.rate_ok x.r h
    have y3 := fun h => within_ok x.p 10 (by omega) h
    generalize Pl.rateR x.r = RR at *
    have t2 := (t1.gr (Gr.self _ RR))
    have q2 := (q1.gr (Gr.self _ RR))
    have gr2 := (gr1.app RR)
    simp only [List.append_assoc, List.cons_append, List.nil_append] at t2 q2 gr2
    cases hraw : x.raw with
    | true =>
      rw [hraw] at t2 q2 gr2
      simp [wpk_skip, wpk_seq, k_cond, wpk_block, wpk_exit, wpk_ret, wpk_loop, k_ops, k_draw0, t_nil, t_cons, KT_eq, KD_eq, wpo_nil, k_cons, k_step, mt_some, mtk_some, KO_eq, KP_eq, K_normal, K_ret, K_exit, KB_normal, KB_ret, KB_exit, KL_normal, KL_ret, KL_exit, k_ret, k_normal, stepE, isCall, calleeE, opE, wantE, odE, odS, odL, odSL, fget, fput, initE, keepF, List.map_cons, List.map_nil, binE, intOp, strOp, shOp, unE, eqpE, eqnE, neqB, ressE, resE, packL, packE, flat1, fcells, fillE, setL, cellsOf_bind, cellsO_own, cellsO_ro, lenE_sl, lenE_nils, lenE_sl0, bound, rep, minE, maxE, List.getElem?_cons_zero, List.getElem?_cons_succ, get_lt, set_lt, get_len, get_len_add, set_len, set_len_add, List.append_assoc, List.cons_append, List.nil_append, slotsG, slotsE, odT, odsT, optT, partsT, okPairs, okPair, -getElem?_pos, y1, y2, y3]
      generalize h1 ++ LO.own 68 [SV.int IntKind.i64 x.j, SV.int IntKind.i64 x.y, SV.int IntKind.i64 x.r, SV.int IntKind.i64 x.p, SV.bool true] :: LO.own 9 [SV.str ⟨#[117, 107]⟩, SV.str ⟨#[100, 101]⟩, SV.str ⟨#[]⟩, SV.str ⟨#[117, 107, 50]⟩] :: RR = h2 at *
      by_cases k9 : k = 9
      · have k9n : (k : Int) = 9 := by omega
        simp [wpk_skip, wpk_seq, k_cond, wpk_block, wpk_exit, wpk_ret, wpk_loop, k_ops, k_draw0, t_nil, t_cons, KT_eq, KD_eq, wpo_nil, k_cons, k_step, mt_some, mtk_some, KO_eq, KP_eq, K_normal, K_ret, K_exit, KB_normal, KB_ret, KB_exit, KL_normal, KL_ret, KL_exit, k_ret, k_normal, stepE, isCall, calleeE, opE, wantE, odE, odS, odL, odSL, fget, fput, initE, keepF, List.map_cons, List.map_nil, binE, intOp, strOp, shOp, unE, eqpE, eqnE, neqB, ressE, resE, packL, packE, flat1, fcells, fillE, setL, cellsOf_bind, cellsO_own, cellsO_ro, lenE_sl, lenE_nils, lenE_sl0, bound, rep, minE, maxE, List.getElem?_cons_zero, List.getElem?_cons_succ, get_lt, set_lt, get_len, get_len_add, set_len, set_len_add, List.append_assoc, List.cons_append, List.nil_append, -getElem?_pos, k9n]
        refine WPc.go (clone35_ok t2) ?_
        rintro _ h3 ⟨g3, ic, vc, rfl, tc⟩
        simp [wpk_skip, wpk_seq, k_cond, wpk_block, wpk_exit, wpk_ret, wpk_loop, k_ops, k_draw0, t_nil, t_cons, KT_eq, KD_eq, wpo_nil, k_cons, k_step, mt_some, mtk_some, KO_eq, KP_eq, K_normal, K_ret, K_exit, KB_normal, KB_ret, KB_exit, KL_normal, KL_ret, KL_exit, k_ret, k_normal, stepE, isCall, calleeE, opE, wantE, odE, odS, odL, odSL, fget, fput, initE, keepF, List.map_cons, List.map_nil, binE, intOp, strOp, shOp, unE, eqpE, eqnE, neqB, ressE, resE, packL, packE, flat1, fcells, fillE, setL, cellsOf_bind, cellsO_own, cellsO_ro, lenE_sl, lenE_nils, lenE_sl0, bound, rep, minE, maxE, List.getElem?_cons_zero, List.getElem?_cons_succ, get_lt, set_lt, get_len, get_len_add, set_len, set_len_add, List.append_assoc, List.cons_append, List.nil_append, -getElem?_pos, ]
        refine WPc.go (add_ok tc ⟨#[117, 107]⟩ 0 77 0) ?_
        rintro _ h4 ⟨cA, rfl, vcA, tcA⟩
        have gA := cA.base tc g3
        simp [wpk_skip, wpk_seq, k_cond, wpk_block, wpk_exit, wpk_ret, wpk_loop, k_ops, k_draw0, t_nil, t_cons, KT_eq, KD_eq, wpo_nil, k_cons, k_step, mt_some, mtk_some, KO_eq, KP_eq, K_normal, K_ret, K_exit, KB_normal, KB_ret, KB_exit, KL_normal, KL_ret, KL_exit, k_ret, k_normal, stepE, isCall, calleeE, opE, wantE, odE, odS, odL, odSL, fget, fput, initE, keepF, List.map_cons, List.map_nil, binE, intOp, strOp, shOp, unE, eqpE, eqnE, neqB, ressE, resE, packL, packE, flat1, fcells, fillE, setL, cellsOf_bind, cellsO_own, cellsO_ro, lenE_sl, lenE_nils, lenE_sl0, bound, rep, minE, maxE, List.getElem?_cons_zero, List.getElem?_cons_succ, get_lt, set_lt, get_len, get_len_add, set_len, set_len_add, List.append_assoc, List.cons_append, List.nil_append, -getElem?_pos, ]
        refine WPc.go (add_ok tcA ⟨#[122, 122]⟩ 0 77 0) ?_
        rintro _ h5 ⟨cB, rfl, vcB, tcB⟩
        have gB := cB.base tcA gA
        have t5 := t2.gr gB
        have q5 := q2.gr gB
        have gr5 := gr2.trans gB
        simp [wpk_skip, wpk_seq, k_cond, wpk_block, wpk_exit, wpk_ret, wpk_loop, k_ops, k_draw0, t_nil, t_cons, KT_eq, KD_eq, wpo_nil, k_cons, k_step, mt_some, mtk_some, KO_eq, KP_eq, K_normal, K_ret, K_exit, KB_normal, KB_ret, KB_exit, KL_normal, KL_ret, KL_exit, k_ret, k_normal, stepE, isCall, calleeE, opE, wantE, odE, odS, odL, odSL, fget, fput, initE, keepF, List.map_cons, List.map_nil, binE, intOp, strOp, shOp, unE, eqpE, eqnE, neqB, ressE, resE, packL, packE, flat1, fcells, fillE, setL, cellsOf_bind, cellsO_own, cellsO_ro, lenE_sl, lenE_nils, lenE_sl0, bound, rep, minE, maxE, List.getElem?_cons_zero, List.getElem?_cons_succ, get_lt, set_lt, get_len, get_len_add, set_len, set_len_add, List.append_assoc, List.cons_append, List.nil_append, -getElem?_pos, ]
        refine WPc.go (add_ok t5 J x.y x.r x.p) ?_
        rintro _ h6 ⟨c6, rfl, v6, t6⟩
        have q6 := c6.rt t5 q5
        have gr6 := c6.base t5 gr5
        simp [wpk_skip, wpk_seq, k_cond, wpk_block, wpk_exit, wpk_ret, wpk_loop, k_ops, k_draw0, t_nil, t_cons, KT_eq, KD_eq, wpo_nil, k_cons, k_step, mt_some, mtk_some, KO_eq, KP_eq, K_normal, K_ret, K_exit, KB_normal, KB_ret, KB_exit, KL_normal, KL_ret, KL_exit, k_ret, k_normal, stepE, isCall, calleeE, opE, wantE, odE, odS, odL, odSL, fget, fput, initE, keepF, List.map_cons, List.map_nil, binE, intOp, strOp, shOp, unE, eqpE, eqnE, neqB, ressE, resE, packL, packE, flat1, fcells, fillE, setL, cellsOf_bind, cellsO_own, cellsO_ro, lenE_sl, lenE_nils, lenE_sl0, bound, rep, minE, maxE, List.getElem?_cons_zero, List.getElem?_cons_succ, get_lt, set_lt, get_len, get_len_add, set_len, set_len_add, List.append_assoc, List.cons_append, List.nil_append, -getElem?_pos, ]
        refine WPc.go (radd_ok q6 J x.y x.r x.p) ?_
        rintro _ h7 ⟨c7, rfl, w7, q7⟩
        have t7 := c7.tb q6 t6
        have gr7 := c7.rbase q6 gr6
        have ne : ((addR l J x.y x.r x.p).1 != (addR l J x.y x.r x.p).1) = false := by simp
        simp [wpk_skip, wpk_seq, k_cond, wpk_block, wpk_exit, wpk_ret, wpk_loop, k_ops, k_draw0, t_nil, t_cons, KT_eq, KD_eq, wpo_nil, k_cons, k_step, mt_some, mtk_some, KO_eq, KP_eq, K_normal, K_ret, K_exit, KB_normal, KB_ret, KB_exit, KL_normal, KL_ret, KL_exit, k_ret, k_normal, stepE, isCall, calleeE, opE, wantE, odE, odS, odL, odSL, fget, fput, initE, keepF, List.map_cons, List.map_nil, binE, intOp, strOp, shOp, unE, eqpE, eqnE, neqB, ressE, resE, packL, packE, flat1, fcells, fillE, setL, cellsOf_bind, cellsO_own, cellsO_ro, lenE_sl, lenE_nils, lenE_sl0, bound, rep, minE, maxE, List.getElem?_cons_zero, List.getElem?_cons_succ, get_lt, set_lt, get_len, get_len_add, set_len, set_len_add, List.append_assoc, List.cons_append, List.nil_append, -getElem?_pos, ne, w3]
        have e9 : IntKind.i64.wrap 10 = ((k + 1 : Nat) : Int) := by subst k9; decide
        exact ⟨_, by omega, hI _ _ _ ⟨gr7, k + 1, _, _, _, hlt, rfl, t7, q7, by rw [e9]⟩⟩
      · have k9n : ¬ (k : Int) = 9 := by omega
        have t5 := t2
        have q5 := q2
        have gr5 := gr2
        simp [wpk_skip, wpk_seq, k_cond, wpk_block, wpk_exit, wpk_ret, wpk_loop, k_ops, k_draw0, t_nil, t_cons, KT_eq, KD_eq, wpo_nil, k_cons, k_step, mt_some, mtk_some, KO_eq, KP_eq, K_normal, K_ret, K_exit, KB_normal, KB_ret, KB_exit, KL_normal, KL_ret, KL_exit, k_ret, k_normal, stepE, isCall, calleeE, opE, wantE, odE, odS, odL, odSL, fget, fput, initE, keepF, List.map_cons, List.map_nil, binE, intOp, strOp, shOp, unE, eqpE, eqnE, neqB, ressE, resE, packL, packE, flat1, fcells, fillE, setL, cellsOf_bind, cellsO_own, cellsO_ro, lenE_sl, lenE_nils, lenE_sl0, bound, rep, minE, maxE, List.getElem?_cons_zero, List.getElem?_cons_succ, get_lt, set_lt, get_len, get_len_add, set_len, set_len_add, List.append_assoc, List.cons_append, List.nil_append, -getElem?_pos, k9n]
        refine WPc.go (add_ok t5 J x.y x.r x.p) ?_
        rintro _ h6 ⟨c6, rfl, v6, t6⟩
        have q6 := c6.rt t5 q5
        have gr6 := c6.base t5 gr5
        simp [wpk_skip, wpk_seq, k_cond, wpk_block, wpk_exit, wpk_ret, wpk_loop, k_ops, k_draw0, t_nil, t_cons, KT_eq, KD_eq, wpo_nil, k_cons, k_step, mt_some, mtk_some, KO_eq, KP_eq, K_normal, K_ret, K_exit, KB_normal, KB_ret, KB_exit, KL_normal, KL_ret, KL_exit, k_ret, k_normal, stepE, isCall, calleeE, opE, wantE, odE, odS, odL, odSL, fget, fput, initE, keepF, List.map_cons, List.map_nil, binE, intOp, strOp, shOp, unE, eqpE, eqnE, neqB, ressE, resE, packL, packE, flat1, fcells, fillE, setL, cellsOf_bind, cellsO_own, cellsO_ro, lenE_sl, lenE_nils, lenE_sl0, bound, rep, minE, maxE, List.getElem?_cons_zero, List.getElem?_cons_succ, get_lt, set_lt, get_len, get_len_add, set_len, set_len_add, List.append_assoc, List.cons_append, List.nil_append, -getElem?_pos, ]
        refine WPc.go (radd_ok q6 J x.y x.r x.p) ?_
        rintro _ h7 ⟨c7, rfl, w7, q7⟩
        have t7 := c7.tb q6 t6
        have gr7 := c7.rbase q6 gr6
        have ne : ((addR l J x.y x.r x.p).1 != (addR l J x.y x.r x.p).1) = false := by simp
        simp [wpk_skip, wpk_seq, k_cond, wpk_block, wpk_exit, wpk_ret, wpk_loop, k_ops, k_draw0, t_nil, t_cons, KT_eq, KD_eq, wpo_nil, k_cons, k_step, mt_some, mtk_some, KO_eq, KP_eq, K_normal, K_ret, K_exit, KB_normal, KB_ret, KB_exit, KL_normal, KL_ret, KL_exit, k_ret, k_normal, stepE, isCall, calleeE, opE, wantE, odE, odS, odL, odSL, fget, fput, initE, keepF, List.map_cons, List.map_nil, binE, intOp, strOp, shOp, unE, eqpE, eqnE, neqB, ressE, resE, packL, packE, flat1, fcells, fillE, setL, cellsOf_bind, cellsO_own, cellsO_ro, lenE_sl, lenE_nils, lenE_sl0, bound, rep, minE, maxE, List.getElem?_cons_zero, List.getElem?_cons_succ, get_lt, set_lt, get_len, get_len_add, set_len, set_len_add, List.append_assoc, List.cons_append, List.nil_append, -getElem?_pos, ne, w3]
        exact ⟨_, by omega, hI _ _ _ ⟨gr7, k + 1, _, _, _, hlt, rfl, t7, q7, rfl⟩⟩
    | false =>
      rw [hraw] at t2 q2 gr2
      simp [wpk_skip, wpk_seq, k_cond, wpk_block, wpk_exit, wpk_ret, wpk_loop, k_ops, k_draw0, t_nil, t_cons, KT_eq, KD_eq, wpo_nil, k_cons, k_step, mt_some, mtk_some, KO_eq, KP_eq, K_normal, K_ret, K_exit, KB_normal, KB_ret, KB_exit, KL_normal, KL_ret, KL_exit, k_ret, k_normal, stepE, isCall, calleeE, opE, wantE, odE, odS, odL, odSL, fget, fput, initE, keepF, List.map_cons, List.map_nil, binE, intOp, strOp, shOp, unE, eqpE, eqnE, neqB, ressE, resE, packL, packE, flat1, fcells, fillE, setL, cellsOf_bind, cellsO_own, cellsO_ro, lenE_sl, lenE_nils, lenE_sl0, bound, rep, minE, maxE, List.getElem?_cons_zero, List.getElem?_cons_succ, get_lt, set_lt, get_len, get_len_add, set_len, set_len_add, List.append_assoc, List.cons_append, List.nil_append, slotsG, slotsE, odT, odsT, optT, partsT, okPairs, okPair, -getElem?_pos, y1, y2, y3]
      generalize h1 ++ LO.own 68 [SV.int IntKind.i64 x.j, SV.int IntKind.i64 x.y, SV.int IntKind.i64 x.r, SV.int IntKind.i64 x.p, SV.bool false] :: LO.own 9 [SV.str ⟨#[117, 107]⟩, SV.str ⟨#[100, 101]⟩, SV.str ⟨#[]⟩, SV.str ⟨#[117, 107, 50]⟩] :: RR = h2 at *
      by_cases k9 : k = 9
      · have k9n : (k : Int) = 9 := by omega
        simp [wpk_skip, wpk_seq, k_cond, wpk_block, wpk_exit, wpk_ret, wpk_loop, k_ops, k_draw0, t_nil, t_cons, KT_eq, KD_eq, wpo_nil, k_cons, k_step, mt_some, mtk_some, KO_eq, KP_eq, K_normal, K_ret, K_exit, KB_normal, KB_ret, KB_exit, KL_normal, KL_ret, KL_exit, k_ret, k_normal, stepE, isCall, calleeE, opE, wantE, odE, odS, odL, odSL, fget, fput, initE, keepF, List.map_cons, List.map_nil, binE, intOp, strOp, shOp, unE, eqpE, eqnE, neqB, ressE, resE, packL, packE, flat1, fcells, fillE, setL, cellsOf_bind, cellsO_own, cellsO_ro, lenE_sl, lenE_nils, lenE_sl0, bound, rep, minE, maxE, List.getElem?_cons_zero, List.getElem?_cons_succ, get_lt, set_lt, get_len, get_len_add, set_len, set_len_add, List.append_assoc, List.cons_append, List.nil_append, -getElem?_pos, k9n]
        refine WPc.go (clone35_ok t2) ?_
        rintro _ h3 ⟨g3, ic, vc, rfl, tc⟩
        simp [wpk_skip, wpk_seq, k_cond, wpk_block, wpk_exit, wpk_ret, wpk_loop, k_ops, k_draw0, t_nil, t_cons, KT_eq, KD_eq, wpo_nil, k_cons, k_step, mt_some, mtk_some, KO_eq, KP_eq, K_normal, K_ret, K_exit, KB_normal, KB_ret, KB_exit, KL_normal, KL_ret, KL_exit, k_ret, k_normal, stepE, isCall, calleeE, opE, wantE, odE, odS, odL, odSL, fget, fput, initE, keepF, List.map_cons, List.map_nil, binE, intOp, strOp, shOp, unE, eqpE, eqnE, neqB, ressE, resE, packL, packE, flat1, fcells, fillE, setL, cellsOf_bind, cellsO_own, cellsO_ro, lenE_sl, lenE_nils, lenE_sl0, bound, rep, minE, maxE, List.getElem?_cons_zero, List.getElem?_cons_succ, get_lt, set_lt, get_len, get_len_add, set_len, set_len_add, List.append_assoc, List.cons_append, List.nil_append, -getElem?_pos, ]
        refine WPc.go (add_ok tc ⟨#[117, 107]⟩ 0 77 0) ?_
        rintro _ h4 ⟨cA, rfl, vcA, tcA⟩
        have gA := cA.base tc g3
        simp [wpk_skip, wpk_seq, k_cond, wpk_block, wpk_exit, wpk_ret, wpk_loop, k_ops, k_draw0, t_nil, t_cons, KT_eq, KD_eq, wpo_nil, k_cons, k_step, mt_some, mtk_some, KO_eq, KP_eq, K_normal, K_ret, K_exit, KB_normal, KB_ret, KB_exit, KL_normal, KL_ret, KL_exit, k_ret, k_normal, stepE, isCall, calleeE, opE, wantE, odE, odS, odL, odSL, fget, fput, initE, keepF, List.map_cons, List.map_nil, binE, intOp, strOp, shOp, unE, eqpE, eqnE, neqB, ressE, resE, packL, packE, flat1, fcells, fillE, setL, cellsOf_bind, cellsO_own, cellsO_ro, lenE_sl, lenE_nils, lenE_sl0, bound, rep, minE, maxE, List.getElem?_cons_zero, List.getElem?_cons_succ, get_lt, set_lt, get_len, get_len_add, set_len, set_len_add, List.append_assoc, List.cons_append, List.nil_append, -getElem?_pos, ]
        refine WPc.go (add_ok tcA ⟨#[122, 122]⟩ 0 77 0) ?_
        rintro _ h5 ⟨cB, rfl, vcB, tcB⟩
        have gB := cB.base tcA gA
        have t5 := t2.gr gB
        have q5 := q2.gr gB
        have gr5 := gr2.trans gB
        simp [wpk_skip, wpk_seq, k_cond, wpk_block, wpk_exit, wpk_ret, wpk_loop, k_ops, k_draw0, t_nil, t_cons, KT_eq, KD_eq, wpo_nil, k_cons, k_step, mt_some, mtk_some, KO_eq, KP_eq, K_normal, K_ret, K_exit, KB_normal, KB_ret, KB_exit, KL_normal, KL_ret, KL_exit, k_ret, k_normal, stepE, isCall, calleeE, opE, wantE, odE, odS, odL, odSL, fget, fput, initE, keepF, List.map_cons, List.map_nil, binE, intOp, strOp, shOp, unE, eqpE, eqnE, neqB, ressE, resE, packL, packE, flat1, fcells, fillE, setL, cellsOf_bind, cellsO_own, cellsO_ro, lenE_sl, lenE_nils, lenE_sl0, bound, rep, minE, maxE, List.getElem?_cons_zero, List.getElem?_cons_succ, get_lt, set_lt, get_len, get_len_add, set_len, set_len_add, List.append_assoc, List.cons_append, List.nil_append, -getElem?_pos, ]
        refine WPc.go (add_ok t5 J (x.y % 6) (Pl.rateF x.r) (x.p % 10)) ?_
        rintro _ h6 ⟨c6, rfl, v6, t6⟩
        have q6 := c6.rt t5 q5
        have gr6 := c6.base t5 gr5
        simp [wpk_skip, wpk_seq, k_cond, wpk_block, wpk_exit, wpk_ret, wpk_loop, k_ops, k_draw0, t_nil, t_cons, KT_eq, KD_eq, wpo_nil, k_cons, k_step, mt_some, mtk_some, KO_eq, KP_eq, K_normal, K_ret, K_exit, KB_normal, KB_ret, KB_exit, KL_normal, KL_ret, KL_exit, k_ret, k_normal, stepE, isCall, calleeE, opE, wantE, odE, odS, odL, odSL, fget, fput, initE, keepF, List.map_cons, List.map_nil, binE, intOp, strOp, shOp, unE, eqpE, eqnE, neqB, ressE, resE, packL, packE, flat1, fcells, fillE, setL, cellsOf_bind, cellsO_own, cellsO_ro, lenE_sl, lenE_nils, lenE_sl0, bound, rep, minE, maxE, List.getElem?_cons_zero, List.getElem?_cons_succ, get_lt, set_lt, get_len, get_len_add, set_len, set_len_add, List.append_assoc, List.cons_append, List.nil_append, -getElem?_pos, ]
        refine WPc.go (radd_ok q6 J (x.y % 6) (Pl.rateF x.r) (x.p % 10)) ?_
        rintro _ h7 ⟨c7, rfl, w7, q7⟩
        have t7 := c7.tb q6 t6
        have gr7 := c7.rbase q6 gr6
        have ne : ((addR l J (x.y % 6) (Pl.rateF x.r) (x.p % 10)).1 != (addR l J (x.y % 6) (Pl.rateF x.r) (x.p % 10)).1) = false := by simp
        simp [wpk_skip, wpk_seq, k_cond, wpk_block, wpk_exit, wpk_ret, wpk_loop, k_ops, k_draw0, t_nil, t_cons, KT_eq, KD_eq, wpo_nil, k_cons, k_step, mt_some, mtk_some, KO_eq, KP_eq, K_normal, K_ret, K_exit, KB_normal, KB_ret, KB_exit, KL_normal, KL_ret, KL_exit, k_ret, k_normal, stepE, isCall, calleeE, opE, wantE, odE, odS, odL, odSL, fget, fput, initE, keepF, List.map_cons, List.map_nil, binE, intOp, strOp, shOp, unE, eqpE, eqnE, neqB, ressE, resE, packL, packE, flat1, fcells, fillE, setL, cellsOf_bind, cellsO_own, cellsO_ro, lenE_sl, lenE_nils, lenE_sl0, bound, rep, minE, maxE, List.getElem?_cons_zero, List.getElem?_cons_succ, get_lt, set_lt, get_len, get_len_add, set_len, set_len_add, List.append_assoc, List.cons_append, List.nil_append, -getElem?_pos, ne, w3]
        have e9 : IntKind.i64.wrap 10 = ((k + 1 : Nat) : Int) := by subst k9; decide
        exact ⟨_, by omega, hI _ _ _ ⟨gr7, k + 1, _, _, _, hlt, rfl, t7, q7, by rw [e9]⟩⟩
      · have k9n : ¬ (k : Int) = 9 := by omega
        have t5 := t2
        have q5 := q2
        have gr5 := gr2
        simp [wpk_skip, wpk_seq, k_cond, wpk_block, wpk_exit, wpk_ret, wpk_loop, k_ops, k_draw0, t_nil, t_cons, KT_eq, KD_eq, wpo_nil, k_cons, k_step, mt_some, mtk_some, KO_eq, KP_eq, K_normal, K_ret, K_exit, KB_normal, KB_ret, KB_exit, KL_normal, KL_ret, KL_exit, k_ret, k_normal, stepE, isCall, calleeE, opE, wantE, odE, odS, odL, odSL, fget, fput, initE, keepF, List.map_cons, List.map_nil, binE, intOp, strOp, shOp, unE, eqpE, eqnE, neqB, ressE, resE, packL, packE, flat1, fcells, fillE, setL, cellsOf_bind, cellsO_own, cellsO_ro, lenE_sl, lenE_nils, lenE_sl0, bound, rep, minE, maxE, List.getElem?_cons_zero, List.getElem?_cons_succ, get_lt, set_lt, get_len, get_len_add, set_len, set_len_add, List.append_assoc, List.cons_append, List.nil_append, -getElem?_pos, k9n]
        refine WPc.go (add_ok t5 J (x.y % 6) (Pl.rateF x.r) (x.p % 10)) ?_
        rintro _ h6 ⟨c6, rfl, v6, t6⟩
        have q6 := c6.rt t5 q5
        have gr6 := c6.base t5 gr5
        simp [wpk_skip, wpk_seq, k_cond, wpk_block, wpk_exit, wpk_ret, wpk_loop, k_ops, k_draw0, t_nil, t_cons, KT_eq, KD_eq, wpo_nil, k_cons, k_step, mt_some, mtk_some, KO_eq, KP_eq, K_normal, K_ret, K_exit, KB_normal, KB_ret, KB_exit, KL_normal, KL_ret, KL_exit, k_ret, k_normal, stepE, isCall, calleeE, opE, wantE, odE, odS, odL, odSL, fget, fput, initE, keepF, List.map_cons, List.map_nil, binE, intOp, strOp, shOp, unE, eqpE, eqnE, neqB, ressE, resE, packL, packE, flat1, fcells, fillE, setL, cellsOf_bind, cellsO_own, cellsO_ro, lenE_sl, lenE_nils, lenE_sl0, bound, rep, minE, maxE, List.getElem?_cons_zero, List.getElem?_cons_succ, get_lt, set_lt, get_len, get_len_add, set_len, set_len_add, List.append_assoc, List.cons_append, List.nil_append, -getElem?_pos, ]
        refine WPc.go (radd_ok q6 J (x.y % 6) (Pl.rateF x.r) (x.p % 10)) ?_
        rintro _ h7 ⟨c7, rfl, w7, q7⟩
        have t7 := c7.tb q6 t6
        have gr7 := c7.rbase q6 gr6
        have ne : ((addR l J (x.y % 6) (Pl.rateF x.r) (x.p % 10)).1 != (addR l J (x.y % 6) (Pl.rateF x.r) (x.p % 10)).1) = false := by simp
        simp [wpk_skip, wpk_seq, k_cond, wpk_block, wpk_exit, wpk_ret, wpk_loop, k_ops, k_draw0, t_nil, t_cons, KT_eq, KD_eq, wpo_nil, k_cons, k_step, mt_some, mtk_some, KO_eq, KP_eq, K_normal, K_ret, K_exit, KB_normal, KB_ret, KB_exit, KL_normal, KL_ret, KL_exit, k_ret, k_normal, stepE, isCall, calleeE, opE, wantE, odE, odS, odL, odSL, fget, fput, initE, keepF, List.map_cons, List.map_nil, binE, intOp, strOp, shOp, unE, eqpE, eqnE, neqB, ressE, resE, packL, packE, flat1, fcells, fillE, setL, cellsOf_bind, cellsO_own, cellsO_ro, lenE_sl, lenE_nils, lenE_sl0, bound, rep, minE, maxE, List.getElem?_cons_zero, List.getElem?_cons_succ, get_lt, set_lt, get_len, get_len_add, set_len, set_len_add, List.append_assoc, List.cons_append, List.nil_append, -getElem?_pos, ne, w3]
        exact ⟨_, by omega, hI _ _ _ ⟨gr7, k + 1, _, _, _, hlt, rfl, t7, q7, rfl⟩⟩
  · rintro x fr' h1 ⟨rfl, rfl, v, w, l, t, q⟩
    simp [wpk_skip, wpk_seq, k_cond, wpk_block, wpk_exit, wpk_ret, wpk_loop, k_ops, k_draw0, t_nil, t_cons, KT_eq, KD_eq, wpo_nil, k_cons, k_step, mt_some, mtk_some, KO_eq, KP_eq, K_normal, K_ret, K_exit, KB_normal, KB_ret, KB_exit, KL_normal, KL_ret, KL_exit, k_ret, k_normal, stepE, isCall, calleeE, opE, wantE, odE, odS, odL, odSL, fget, fput, initE, keepF, List.map_cons, List.map_nil, binE, intOp, strOp, shOp, unE, eqpE, eqnE, neqB, ressE, resE, packL, packE, flat1, fcells, fillE, setL, cellsOf_bind, cellsO_own, cellsO_ro, lenE_sl, lenE_nils, lenE_sl0, bound, rep, minE, maxE, List.getElem?_cons_zero, List.getElem?_cons_succ, get_lt, set_lt, get_len, get_len_add, set_len, set_len_add, List.append_assoc, List.cons_append, List.nil_append, -getElem?_pos, s11_4]
    refine WPc.go t.rs ?_
    rintro _ h2 ⟨g2, wA, rfl, oA⟩
    have t2 := t.gr g2
    have q2 := q.gr g2
    have rA2 := oA.rd (z := 4) encR_len
    have rR2 := q2.rows.rd (z := 4) encR_len
    have lA := rA2.len
    have lR := rR2.len
    have qo := q2.obj
    have ql := lt_of_some qo
    have n1 : ((l.length : Int) != (l.length : Int)) = false := by simp
    simp [wpk_skip, wpk_seq, k_cond, wpk_block, wpk_exit, wpk_ret, wpk_loop, k_ops, k_draw0, t_nil, t_cons, KT_eq, KD_eq, wpo_nil, k_cons, k_step, mt_some, mtk_some, KO_eq, KP_eq, K_normal, K_ret, K_exit, KB_normal, KB_ret, KB_exit, KL_normal, KL_ret, KL_exit, k_ret, k_normal, stepE, isCall, calleeE, opE, wantE, odE, odS, odL, odSL, fget, fput, initE, keepF, List.map_cons, List.map_nil, binE, intOp, strOp, shOp, unE, eqpE, eqnE, neqB, ressE, resE, packL, packE, flat1, fcells, fillE, setL, cellsOf_bind, cellsO_own, cellsO_ro, lenE_sl, lenE_nils, lenE_sl0, bound, rep, minE, maxE, List.getElem?_cons_zero, List.getElem?_cons_succ, get_lt, set_lt, get_len, get_len_add, set_len, set_len_add, List.append_assoc, List.cons_append, List.nil_append, -getElem?_pos, s11_5, s11_6, lA, lR, qo, ql, n1]
    refine WPl.post (fun x fr' h' => x = .exit 2 ∧ fr' = [(3, some (.s (.ptr h0.length 0))), (4, some (.s (.ptr (h0.length + 1) 0)))] ∧ h' = h2) (fun Φ hΦ => ?_) ?_
    · refine WPl.inv2 (fun n fr h' => h' = h2 ∧ ∃ (k : Nat), k ≤ l.length ∧ n = l.length - k ∧
        fr = [(3, some (.s (.ptr h0.length 0))), (4, some (.s (.ptr (h0.length + 1) 0))), (12, some (.s wA)), (99, some (.s (.int .i64 l.length))), (100, some (.s (.int .i64 k)))]) ?_ _ _ _ ⟨rfl, 0, Nat.zero_le _, rfl, by simp⟩
      rintro I hI n fr h' ⟨rfl, k, hk, rfl, rfl⟩
      refine ⟨by simp [keepF, fget], ?_⟩
      by_cases hlt : k < l.length
      · obtain ⟨j1, p1, o1, ob1, vs1, rfl, c1, c2, c3, c4, -⟩ := rA2.at encR_len hlt
        obtain ⟨j2, p2, o2, ob2, vs2, rfl, d1, d2, d3, d4, -⟩ := rR2.at encR_len hlt
        simp only [encR] at c4 d4
        have l24 := t.len
        generalize l[k] = x at *
        have hce : cellsEq [.str x.j, .int .i64 x.y, .int .i64 x.r, .int .i64 x.p] [.str x.j, .int .i64 x.y, .int .i64 x.r, .int .i64 x.p] [(0, 2), (1, 0), (2, 0), (3, 0)] = some true := by
          simp [cellsEq, cellEq, bytes_self]
        have w3 : IntKind.i64.wrap ((k : Int) + 1) = ((k + 1 : Nat) : Int) := wrap_small (by omega) (by omega)
        simp [wpk_skip, wpk_seq, k_cond, wpk_block, wpk_exit, wpk_ret, wpk_loop, k_ops, k_draw0, t_nil, t_cons, KT_eq, KD_eq, wpo_nil, k_cons, k_step, mt_some, mtk_some, KO_eq, KP_eq, K_normal, K_ret, K_exit, KB_normal, KB_ret, KB_exit, KL_normal, KL_ret, KL_exit, k_ret, k_normal, stepE, isCall, calleeE, opE, wantE, odE, odS, odL, odSL, fget, fput, initE, keepF, List.map_cons, List.map_nil, binE, intOp, strOp, shOp, unE, eqpE, eqnE, neqB, ressE, resE, packL, packE, flat1, fcells, fillE, setL, cellsOf_bind, cellsO_own, cellsO_ro, lenE_sl, lenE_nils, lenE_sl0, bound, rep, minE, maxE, List.getElem?_cons_zero, List.getElem?_cons_succ, get_lt, set_lt, get_len, get_len_add, set_len, set_len_add, List.append_assoc, List.cons_append, List.nil_append, -getElem?_pos, l11_1, l11_1_1, l11_1_2, hlt, c1, c2, c3, c4, d1, d2, d3, d4, qo, ql, hce, w3]
        exact ⟨_, by omega, hI _ _ _ ⟨rfl, k + 1, hlt, rfl, by simp⟩⟩
      · simp [wpk_skip, wpk_seq, k_cond, wpk_block, wpk_exit, wpk_ret, wpk_loop, k_ops, k_draw0, t_nil, t_cons, KT_eq, KD_eq, wpo_nil, k_cons, k_step, mt_some, mtk_some, KO_eq, KP_eq, K_normal, K_ret, K_exit, KB_normal, KB_ret, KB_exit, KL_normal, KL_ret, KL_exit, k_ret, k_normal, stepE, isCall, calleeE, opE, wantE, odE, odS, odL, odSL, fget, fput, initE, keepF, List.map_cons, List.map_nil, binE, intOp, strOp, shOp, unE, eqpE, eqnE, neqB, ressE, resE, packL, packE, flat1, fcells, fillE, setL, cellsOf_bind, cellsO_own, cellsO_ro, lenE_sl, lenE_nils, lenE_sl0, bound, rep, minE, maxE, List.getElem?_cons_zero, List.getElem?_cons_succ, get_lt, set_lt, get_len, get_len_add, set_len, set_len_add, List.append_assoc, List.cons_append, List.nil_append, -getElem?_pos, l11_1, l11_1_1, hlt]
        exact hΦ _ _ _ ⟨rfl, rfl, rfl⟩
    · rintro x fr' h3 ⟨rfl, rfl, rfl⟩
      simp [wpk_skip, wpk_seq, k_cond, wpk_block, wpk_exit, wpk_ret, wpk_loop, k_ops, k_draw0, t_nil, t_cons, KT_eq, KD_eq, wpo_nil, k_cons, k_step, mt_some, mtk_some, KO_eq, KP_eq, K_normal, K_ret, K_exit, KB_normal, KB_ret, KB_exit, KL_normal, KL_ret, KL_exit, k_ret, k_normal, stepE, isCall, calleeE, opE, wantE, odE, odS, odL, odSL, fget, fput, initE, keepF, List.map_cons, List.map_nil, binE, intOp, strOp, shOp, unE, eqpE, eqnE, neqB, ressE, resE, packL, packE, flat1, fcells, fillE, setL, cellsOf_bind, cellsO_own, cellsO_ro, lenE_sl, lenE_nils, lenE_sl0, bound, rep, minE, maxE, List.getElem?_cons_zero, List.getElem?_cons_succ, get_lt, set_lt, get_len, get_len_add, set_len, set_len_add, List.append_assoc, List.cons_append, List.nil_append, -getElem?_pos, s11_7]
      have g4 := Gr.self h3 [LO.own 9 [.str ⟨#[117, 107]⟩, .str ⟨#[100, 101]⟩, .str ⟨#[102, 114]⟩, .str ⟨#[]⟩]]
      have t4 := t2.gr g4
      have q4 := q2.gr g4
      have hN : (h3 ++ [LO.own 9 [.str ⟨#[117, 107]⟩, .str ⟨#[100, 101]⟩, .str ⟨#[102, 114]⟩, .str ⟨#[]⟩]])[h3.length]? = some (.own 9 [.str ⟨#[117, 107]⟩, .str ⟨#[100, 101]⟩, .str ⟨#[102, 114]⟩, .str ⟨#[]⟩]) := get_len
      obtain ⟨N, hNN⟩ : ∃ N, N = h3.length := ⟨_, rfl⟩
      rw [← hNN] at hN ⊢
      generalize h3 ++ [LO.own 9 [.str ⟨#[117, 107]⟩, .str ⟨#[100, 101]⟩, .str ⟨#[102, 114]⟩, .str ⟨#[]⟩]] = h4 at *
      refine WPl.post (fun x fr' h' => x = .exit 4 ∧ fr' = []) (fun Φ hΦ => ?_) ?_
      · refine WPl.inv2 (fun n fr h' => Gr h4 h' ∧ ∃ (k : Nat), k ≤ 4 ∧ n = 4 - k ∧
          fr = [(3, some (.s (.ptr h0.length 0))), (4, some (.s (.ptr (h0.length + 1) 0))), (116, some (.s (.sl N 0 0 4))), (117, some (.s (.int .i64 4))), (118, some (.s (.int .i64 k)))]) ?_ _ _ _ ⟨Gr.refl _, 0, Nat.zero_le _, rfl, by simp⟩
        rintro I hI n fr h5 ⟨gr, k, hk, rfl, rfl⟩
        refine ⟨by simp [keepF, fget], ?_⟩
        by_cases hlt : k < 4
        · have hlt' : (k : Int) < 4 := by omega
          have w3 : IntKind.i64.wrap ((k : Int) + 1) = ((k + 1 : Nat) : Int) := wrap_small (by omega) (by omega)
          obtain ⟨J, hJ⟩ : ∃ J, ([.str ⟨#[117, 107]⟩, .str ⟨#[100, 101]⟩, .str ⟨#[102, 114]⟩, .str ⟨#[]⟩] : List SV)[k]? = some (.str J) := by
            have : k = 0 ∨ k = 1 ∨ k = 2 ∨ k = 3 := by omega
            rcases this with rfl | rfl | rfl | rfl <;> exact ⟨_, rfl⟩
          have hN5 := gr.get hN
          have lN5 := lt_of_some hN5
          simp [wpk_skip, wpk_seq, k_cond, wpk_block, wpk_exit, wpk_ret, wpk_loop, k_ops, k_draw0, t_nil, t_cons, KT_eq, KD_eq, wpo_nil, k_cons, k_step, mt_some, mtk_some, KO_eq, KP_eq, K_normal, K_ret, K_exit, KB_normal, KB_ret, KB_exit, KL_normal, KL_ret, KL_exit, k_ret, k_normal, stepE, isCall, calleeE, opE, wantE, odE, odS, odL, odSL, fget, fput, initE, keepF, List.map_cons, List.map_nil, binE, intOp, strOp, shOp, unE, eqpE, eqnE, neqB, ressE, resE, packL, packE, flat1, fcells, fillE, setL, cellsOf_bind, cellsO_own, cellsO_ro, lenE_sl, lenE_nils, lenE_sl0, bound, rep, minE, maxE, List.getElem?_cons_zero, List.getElem?_cons_succ, get_lt, set_lt, get_len, get_len_add, set_len, set_len_add, List.append_assoc, List.cons_append, List.nil_append, -getElem?_pos, l11_4, l11_4_1, l11_4_2, hlt, hlt', hN5, lN5, hJ]
          refine WPl.post (fun x fr' h' => x = .exit 6 ∧ fr' = [(3, some (.s (.ptr h0.length 0))), (4, some (.s (.ptr (h0.length + 1) 0))), (116, some (.s (.sl N 0 0 4))), (117, some (.s (.int .i64 4))), (118, some (.s (.int .i64 k)))] ∧ Gr h4 h') (fun Φ1 hΦ1 => ?_) ?_
          · refine WPl.inv2 (fun n fr h' => Gr h4 h' ∧ ∃ (m : Nat), m ≤ 9 ∧ n = 9 - m ∧
              fr = [(3, some (.s (.ptr h0.length 0))), (4, some (.s (.ptr (h0.length + 1) 0))), (15, some (.s (.str J))), (16, some (.s (.int .i64 ((m : Int) - 1)))), (116, some (.s (.sl N 0 0 4))), (117, some (.s (.int .i64 4))), (118, some (.s (.int .i64 k)))]) ?_ _ _ _ ⟨gr, 0, Nat.zero_le _, rfl, by simp⟩
            rintro I1 hI1 n fr h6 ⟨gr6, m, hm, rfl, rfl⟩
            refine ⟨by simp [keepF, fget], ?_⟩
            by_cases mlt : m < 9
            · have mlt' : (m : Int) - 1 < 8 := by omega
              have w4 : IntKind.i64.wrap ((m : Int) - 1 + 1) = (m : Int) := by rw [wrap_small (by omega) (by omega)]; omega
              have w4' : IntKind.i64.wrap (m : Int) = (m : Int) := wrap_small (by omega) (by omega)
              have e4 : ((m + 1 : Nat) : Int) - 1 = m := by omega
              simp [wpk_skip, wpk_seq, k_cond, wpk_block, wpk_exit, wpk_ret, wpk_loop, k_ops, k_draw0, t_nil, t_cons, KT_eq, KD_eq, wpo_nil, k_cons, k_step, mt_some, mtk_some, KO_eq, KP_eq, K_normal, K_ret, K_exit, KB_normal, KB_ret, KB_exit, KL_normal, KL_ret, KL_exit, k_ret, k_normal, stepE, isCall, calleeE, opE, wantE, odE, odS, odL, odSL, fget, fput, initE, keepF, List.map_cons, List.map_nil, binE, intOp, strOp, shOp, unE, eqpE, eqnE, neqB, ressE, resE, packL, packE, flat1, fcells, fillE, setL, cellsOf_bind, cellsO_own, cellsO_ro, lenE_sl, lenE_nils, lenE_sl0, bound, rep, minE, maxE, List.getElem?_cons_zero, List.getElem?_cons_succ, get_lt, set_lt, get_len, get_len_add, set_len, set_len_add, List.append_assoc, List.cons_append, List.nil_append, -getElem?_pos, l11_3, l11_3_1, mlt']
              refine WPl.post (fun x fr' h' => x = .exit 8 ∧ fr' = [(3, some (.s (.ptr h0.length 0))), (4, some (.s (.ptr (h0.length + 1) 0))), (15, some (.s (.str J))), (16, some (.s (.int .i64 ((m : Int) - 1)))), (116, some (.s (.sl N 0 0 4))), (117, some (.s (.int .i64 4))), (118, some (.s (.int .i64 k)))] ∧ Gr h4 h') (fun Φ2 hΦ2 => ?_) ?_
              · refine WPl.inv2 (fun n fr h' => Gr h4 h' ∧ ∃ (c : Nat), c ≤ 12 ∧ n = 12 - c ∧
                  fr = [(3, some (.s (.ptr h0.length 0))), (4, some (.s (.ptr (h0.length + 1) 0))), (15, some (.s (.str J))), (16, some (.s (.int .i64 ((m : Int) - 1)))), (17, some (.s (.int .i64 ((c : Int) - 1)))), (116, some (.s (.sl N 0 0 4))), (117, some (.s (.int .i64 4))), (118, some (.s (.int .i64 k)))]) ?_ _ _ _ ⟨gr6, 0, Nat.zero_le _, rfl, by simp⟩
                rintro I2 hI2 n fr h7 ⟨gr7, c, hc, rfl, rfl⟩
                refine ⟨by simp [keepF, fget], ?_⟩
                by_cases clt : c < 12
                · have clt' : (c : Int) - 1 < 11 := by omega
                  have w5 : IntKind.i64.wrap ((c : Int) - 1 + 1) = (c : Int) := by rw [wrap_small (by omega) (by omega)]; omega
                  have w5' : IntKind.i64.wrap (c : Int) = (c : Int) := wrap_small (by omega) (by omega)
                  have e5 : ((c + 1 : Nat) : Int) - 1 = c := by omega
                  simp [wpk_skip, wpk_seq, k_cond, wpk_block, wpk_exit, wpk_ret, wpk_loop, k_ops, k_draw0, t_nil, t_cons, KT_eq, KD_eq, wpo_nil, k_cons, k_step, mt_some, mtk_some, KO_eq, KP_eq, K_normal, K_ret, K_exit, KB_normal, KB_ret, KB_exit, KL_normal, KL_ret, KL_exit, k_ret, k_normal, stepE, isCall, calleeE, opE, wantE, odE, odS, odL, odSL, fget, fput, initE, keepF, List.map_cons, List.map_nil, binE, intOp, strOp, shOp, unE, eqpE, eqnE, neqB, ressE, resE, packL, packE, flat1, fcells, fillE, setL, cellsOf_bind, cellsO_own, cellsO_ro, lenE_sl, lenE_nils, lenE_sl0, bound, rep, minE, maxE, List.getElem?_cons_zero, List.getElem?_cons_succ, get_lt, set_lt, get_len, get_len_add, set_len, set_len_add, List.append_assoc, List.cons_append, List.nil_append, -getElem?_pos, l11_2, l11_2_1, clt']
                  refine WPc.go ((t4.gr gr7).rate J ((m : Int) - 1) ((c : Int) - 1)) ?_
                  rintro _ h8 ⟨g8, rfl⟩
                  have gr8 := gr7.trans g8
                  simp [wpk_skip, wpk_seq, k_cond, wpk_block, wpk_exit, wpk_ret, wpk_loop, k_ops, k_draw0, t_nil, t_cons, KT_eq, KD_eq, wpo_nil, k_cons, k_step, mt_some, mtk_some, KO_eq, KP_eq, K_normal, K_ret, K_exit, KB_normal, KB_ret, KB_exit, KL_normal, KL_ret, KL_exit, k_ret, k_normal, stepE, isCall, calleeE, opE, wantE, odE, odS, odL, odSL, fget, fput, initE, keepF, List.map_cons, List.map_nil, binE, intOp, strOp, shOp, unE, eqpE, eqnE, neqB, ressE, resE, packL, packE, flat1, fcells, fillE, setL, cellsOf_bind, cellsO_own, cellsO_ro, lenE_sl, lenE_nils, lenE_sl0, bound, rep, minE, maxE, List.getElem?_cons_zero, List.getElem?_cons_succ, get_lt, set_lt, get_len, get_len_add, set_len, set_len_add, List.append_assoc, List.cons_append, List.nil_append, -getElem?_pos, ]
                  refine WPc.go ((q4.gr gr8).rate J ((m : Int) - 1) ((c : Int) - 1)) ?_
                  rintro _ h9 ⟨g9, rfl⟩
                  have gr9 := gr8.trans g9
                  generalize bestF J ((m : Int) - 1) ((c : Int) - 1) l = B at *
                  have r1 : (rateOf B != rateOf B) = false := by simp
                  have fin : ∃ q, q < 12 - c ∧ I2 q [(3, some (.s (.ptr h0.length 0))), (4, some (.s (.ptr (h0.length + 1) 0))), (15, some (.s (.str J))), (16, some (.s (.int .i64 ((m : Int) - 1)))), (17, some (.s (.int .i64 (c : Int)))), (116, some (.s (.sl N 0 0 4))), (117, some (.s (.int .i64 4))), (118, some (.s (.int .i64 k)))] h9 :=
                    ⟨_, by omega, hI2 _ _ _ ⟨gr9, c + 1, by omega, rfl, by rw [e5]⟩⟩
                  cases hB : B.isSome <;> (rw [hB] at *; simp [wpk_skip, wpk_seq, k_cond, wpk_block, wpk_exit, wpk_ret, wpk_loop, k_ops, k_draw0, t_nil, t_cons, KT_eq, KD_eq, wpo_nil, k_cons, k_step, mt_some, mtk_some, KO_eq, KP_eq, K_normal, K_ret, K_exit, KB_normal, KB_ret, KB_exit, KL_normal, KL_ret, KL_exit, k_ret, k_normal, stepE, isCall, calleeE, opE, wantE, odE, odS, odL, odSL, fget, fput, initE, keepF, List.map_cons, List.map_nil, binE, intOp, strOp, shOp, unE, eqpE, eqnE, neqB, ressE, resE, packL, packE, flat1, fcells, fillE, setL, cellsOf_bind, cellsO_own, cellsO_ro, lenE_sl, lenE_nils, lenE_sl0, bound, rep, minE, maxE, List.getElem?_cons_zero, List.getElem?_cons_succ, get_lt, set_lt, get_len, get_len_add, set_len, set_len_add, List.append_assoc, List.cons_append, List.nil_append, -getElem?_pos, r1, w5, w5']; exact fin)
                · have clt' : ¬ (c : Int) - 1 < 11 := by omega
                  simp [wpk_skip, wpk_seq, k_cond, wpk_block, wpk_exit, wpk_ret, wpk_loop, k_ops, k_draw0, t_nil, t_cons, KT_eq, KD_eq, wpo_nil, k_cons, k_step, mt_some, mtk_some, KO_eq, KP_eq, K_normal, K_ret, K_exit, KB_normal, KB_ret, KB_exit, KL_normal, KL_ret, KL_exit, k_ret, k_normal, stepE, isCall, calleeE, opE, wantE, odE, odS, odL, odSL, fget, fput, initE, keepF, List.map_cons, List.map_nil, binE, intOp, strOp, shOp, unE, eqpE, eqnE, neqB, ressE, resE, packL, packE, flat1, fcells, fillE, setL, cellsOf_bind, cellsO_own, cellsO_ro, lenE_sl, lenE_nils, lenE_sl0, bound, rep, minE, maxE, List.getElem?_cons_zero, List.getElem?_cons_succ, get_lt, set_lt, get_len, get_len_add, set_len, set_len_add, List.append_assoc, List.cons_append, List.nil_append, -getElem?_pos, l11_2, l11_2_1, clt']
                  exact hΦ2 _ _ _ ⟨rfl, rfl, gr7⟩
              · rintro x fr' h7 ⟨rfl, rfl, gr7⟩
                simp [wpk_skip, wpk_seq, k_cond, wpk_block, wpk_exit, wpk_ret, wpk_loop, k_ops, k_draw0, t_nil, t_cons, KT_eq, KD_eq, wpo_nil, k_cons, k_step, mt_some, mtk_some, KO_eq, KP_eq, K_normal, K_ret, K_exit, KB_normal, KB_ret, KB_exit, KL_normal, KL_ret, KL_exit, k_ret, k_normal, stepE, isCall, calleeE, opE, wantE, odE, odS, odL, odSL, fget, fput, initE, keepF, List.map_cons, List.map_nil, binE, intOp, strOp, shOp, unE, eqpE, eqnE, neqB, ressE, resE, packL, packE, flat1, fcells, fillE, setL, cellsOf_bind, cellsO_own, cellsO_ro, lenE_sl, lenE_nils, lenE_sl0, bound, rep, minE, maxE, List.getElem?_cons_zero, List.getElem?_cons_succ, get_lt, set_lt, get_len, get_len_add, set_len, set_len_add, List.append_assoc, List.cons_append, List.nil_append, -getElem?_pos, w4, w4']
                exact ⟨_, by omega, hI1 _ _ _ ⟨gr7, m + 1, by omega, rfl, by rw [e4]⟩⟩
            · have mlt' : ¬ (m : Int) - 1 < 8 := by omega
              simp [wpk_skip, wpk_seq, k_cond, wpk_block, wpk_exit, wpk_ret, wpk_loop, k_ops, k_draw0, t_nil, t_cons, KT_eq, KD_eq, wpo_nil, k_cons, k_step, mt_some, mtk_some, KO_eq, KP_eq, K_normal, K_ret, K_exit, KB_normal, KB_ret, KB_exit, KL_normal, KL_ret, KL_exit, k_ret, k_normal, stepE, isCall, calleeE, opE, wantE, odE, odS, odL, odSL, fget, fput, initE, keepF, List.map_cons, List.map_nil, binE, intOp, strOp, shOp, unE, eqpE, eqnE, neqB, ressE, resE, packL, packE, flat1, fcells, fillE, setL, cellsOf_bind, cellsO_own, cellsO_ro, lenE_sl, lenE_nils, lenE_sl0, bound, rep, minE, maxE, List.getElem?_cons_zero, List.getElem?_cons_succ, get_lt, set_lt, get_len, get_len_add, set_len, set_len_add, List.append_assoc, List.cons_append, List.nil_append, -getElem?_pos, l11_3, l11_3_1, mlt']
              exact hΦ1 _ _ _ ⟨rfl, rfl, gr6⟩
          · rintro x fr' h6 ⟨rfl, rfl, gr6⟩
            simp [wpk_skip, wpk_seq, k_cond, wpk_block, wpk_exit, wpk_ret, wpk_loop, k_ops, k_draw0, t_nil, t_cons, KT_eq, KD_eq, wpo_nil, k_cons, k_step, mt_some, mtk_some, KO_eq, KP_eq, K_normal, K_ret, K_exit, KB_normal, KB_ret, KB_exit, KL_normal, KL_ret, KL_exit, k_ret, k_normal, stepE, isCall, calleeE, opE, wantE, odE, odS, odL, odSL, fget, fput, initE, keepF, List.map_cons, List.map_nil, binE, intOp, strOp, shOp, unE, eqpE, eqnE, neqB, ressE, resE, packL, packE, flat1, fcells, fillE, setL, cellsOf_bind, cellsO_own, cellsO_ro, lenE_sl, lenE_nils, lenE_sl0, bound, rep, minE, maxE, List.getElem?_cons_zero, List.getElem?_cons_succ, get_lt, set_lt, get_len, get_len_add, set_len, set_len_add, List.append_assoc, List.cons_append, List.nil_append, -getElem?_pos, w3]
            exact ⟨_, by omega, hI _ _ _ ⟨gr6, k + 1, hlt, rfl, rfl⟩⟩
        · have hlt' : ¬ (k : Int) < 4 := by omega
          simp [wpk_skip, wpk_seq, k_cond, wpk_block, wpk_exit, wpk_ret, wpk_loop, k_ops, k_draw0, t_nil, t_cons, KT_eq, KD_eq, wpo_nil, k_cons, k_step, mt_some, mtk_some, KO_eq, KP_eq, K_normal, K_ret, K_exit, KB_normal, KB_ret, KB_exit, KL_normal, KL_ret, KL_exit, k_ret, k_normal, stepE, isCall, calleeE, opE, wantE, odE, odS, odL, odSL, fget, fput, initE, keepF, List.map_cons, List.map_nil, binE, intOp, strOp, shOp, unE, eqpE, eqnE, neqB, ressE, resE, packL, packE, flat1, fcells, fillE, setL, cellsOf_bind, cellsO_own, cellsO_ro, lenE_sl, lenE_nils, lenE_sl0, bound, rep, minE, maxE, List.getElem?_cons_zero, List.getElem?_cons_succ, get_lt, set_lt, get_len, get_len_add, set_len, set_len_add, List.append_assoc, List.cons_append, List.nil_append, -getElem?_pos, l11_4, l11_4_1, hlt, hlt']
          exact hΦ _ _ _ ⟨rfl, rfl⟩
      · rintro x fr' h5 ⟨rfl, rfl⟩
        simp [wpk_skip, wpk_seq, k_cond, wpk_block, wpk_exit, wpk_ret, wpk_loop, k_ops, k_draw0, t_nil, t_cons, KT_eq, KD_eq, wpo_nil, k_cons, k_step, mt_some, mtk_some, KO_eq, KP_eq, K_normal, K_ret, K_exit, KB_normal, KB_ret, KB_exit, KL_normal, KL_ret, KL_exit, k_ret, k_normal, stepE, isCall, calleeE, opE, wantE, odE, odS, odL, odSL, fget, fput, initE, keepF, List.map_cons, List.map_nil, binE, intOp, strOp, shOp, unE, eqpE, eqnE, neqB, ressE, resE, packL, packE, flat1, fcells, fillE, setL, cellsOf_bind, cellsO_own, cellsO_ro, lenE_sl, lenE_nils, lenE_sl0, bound, rep, minE, maxE, List.getElem?_cons_zero, List.getElem?_cons_succ, get_lt, set_lt, get_len, get_len_add, set_len, set_len_add, List.append_assoc, List.cons_append, List.nil_append, -getElem?_pos, s11_8]
        refine WPc.go (wakes_ok _) ?_
        rintro _ h6 ⟨g6, rfl⟩
        simp [wpk_skip, wpk_seq, k_cond, wpk_block, wpk_exit, wpk_ret, wpk_loop, k_ops, k_draw0, t_nil, t_cons, KT_eq, KD_eq, wpo_nil, k_cons, k_step, mt_some, mtk_some, KO_eq, KP_eq, K_normal, K_ret, K_exit, KB_normal, KB_ret, KB_exit, KL_normal, KL_ret, KL_exit, k_ret, k_normal, stepE, isCall, calleeE, opE, wantE, odE, odS, odL, odSL, fget, fput, initE, keepF, List.map_cons, List.map_nil, binE, intOp, strOp, shOp, unE, eqpE, eqnE, neqB, ressE, resE, packL, packE, flat1, fcells, fillE, setL, cellsOf_bind, cellsO_own, cellsO_ro, lenE_sl, lenE_nils, lenE_sl0, bound, rep, minE, maxE, List.getElem?_cons_zero, List.getElem?_cons_succ, get_lt, set_lt, get_len, get_len_add, set_len, set_len_add, List.append_assoc, List.cons_append, List.nil_append, -getElem?_pos]
        exact hΨ _ _ rfl
end Go.Proofs.Ytcimcccnhbbncaa.Ev.CE
