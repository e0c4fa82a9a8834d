/- EnactOrder on the small machine. -/
import Derived.Test.YtcimcccnhbbncaaEnO
set_option linter.unusedSimpArgs false
set_option linter.unusedVariables false
namespace Go.Proofs.Ytcimcccnhbbncaa.Ev.CE
open Go

def de : ByteArray := ⟨#[100, 101]⟩
def goodR (x : Ro) : Prop := argOk x.j x.y x.r x.p = true
theorem addR_new {l : List Ro} {x : Ro} (hg : goodR x) (ha : ∀ a ∈ l, Apt a x) (hl : l.length < 24) : addR l x.j x.y x.r x.p = (0, l ++ [x]) := by
  unfold addR
  unfold goodR at hg
  rw [hg, any_apt ha, if_neg (by decide), if_neg (by decide), if_neg (by omega)]
theorem addR_ok {l : List Ro} {j : ByteArray} {y r p : Int} (h : ((addR l j y r p).1 == 0) = true) : goodR ⟨j, y, r, p⟩ ∧ (∀ a ∈ l, Apt a ⟨j, y, r, p⟩) ∧ (addR l j y r p).2 = l ++ [⟨j, y, r, p⟩] := by
  rcases addR_cases l j y r p with ⟨e, _⟩ | ⟨_, e, ha⟩
  · rw [e] at h; cases h
  · refine ⟨?_, apt_any ha, e⟩
    unfold goodR
    unfold addR at h
    cases hg : argOk j y r p with
    | true => rfl
    | false => rw [hg] at h; simp at h

set_option maxRecDepth 20000 in
set_option maxHeartbeats 8000000 in
theorem enactOrder_ok {h0 : LH} {av : SV} {zs : List Act} (ha : RowA h0 68 encA av zs) (at0 year0 : Int) : ∃ h', callX C 9 [.s av, .s (.int .i64 at0), .s (.int .i64 year0)] h0 = some (.s (.bool true), h') ∧ True := by
  suffices w : WPc C 9 [.s av, .s (.int .i64 at0), .s (.int .i64 year0)] h0 fun u _ => u = .s (.bool true) by
    obtain ⟨v, h', e, rfl⟩ := w
    exact ⟨h', e, trivial⟩
  refine WPc.post fun Ψ hΨ => ?_
  refine WPc.intro (e := e9) rfl (by simp [e9]) ?_
  show WPk C b9 _ _ (KR [.tmp 6] _)
  have rA := ha.rd encA_len
  simp [wpk_skip, wpk_seq, k_cond, wpk_block, wpk_exit, wpk_ret, wpk_loop, k_ops, k_draw0, t_nil, t_cons, KT_eq, KD_eq, wpo_nil, k_cons, k_step, mt_some, mtk_some, KO_eq, KP_eq, K_normal, K_ret, K_exit, KB_normal, KB_ret, KB_exit, KL_normal, KL_ret, KL_exit, k_ret, k_normal, stepE, isCall, calleeE, opE, wantE, odE, odS, odL, odSL, fget, fput, initE, keepF, List.map_cons, List.map_nil, binE, intOp, strOp, shOp, unE, eqpE, eqnE, neqB, ressE, resE, packL, packE, flat1, fcells, fillE, setL, cellsOf_bind, cellsO_own, cellsO_ro, lenE_sl, lenE_nils, lenE_sl0, bound, rep, minE, maxE, List.getElem?_cons_zero, List.getElem?_cons_succ, get_lt, set_lt, get_len, get_len_add, set_len, set_len_add, List.append_assoc, List.cons_append, List.nil_append, -getElem?_pos, b9, s9_1, s9_2, s9_3, s9_4, new_ok]
  refine WPl.post (fun x fr' h' => x = .exit 0 ∧ ∃ va v9 l, fr' = [(1, some (.s (.int .i64 at0))), (2, some (.s (.int .i64 year0))), (7, some (.s (.ptr h0.length 0))), (8, some (.s (.ptr (h0.length + 1) 0))), (9, some (.s v9))] ∧ Gr h0 h' ∧ Tb h0.length h' h0.length va l ∧ Ow h0.length h' 63 encR v9 l ∧ Off v9 va ∧ h'[h0.length + 1]? = some (.own 79 [.nils]) ∧ l.length ≤ 12 ∧ l.Pairwise Apt ∧ ∀ x ∈ l, goodR x) (fun Φ hΦ => ?_) ?_
  · refine WPl.inv2 (fun m fr h' => ∃ (k : Nat) (va v9 : SV) (l : List Ro), k ≤ zs.length ∧ m = zs.length - k ∧ Gr h0 h' ∧ Tb h0.length h' h0.length va l ∧ Ow h0.length h' 63 encR v9 l ∧ Off v9 va ∧ h'[h0.length + 1]? = some (.own 79 [.nils]) ∧ l.length ≤ k ∧ k ≤ 12 ∧ l.Pairwise Apt ∧ (∀ x ∈ l, goodR x) ∧
      fr = [(0, some (.s av)), (1, some (.s (.int .i64 at0))), (2, some (.s (.int .i64 year0))), (7, some (.s (.ptr h0.length 0))), (8, some (.s (.ptr (h0.length + 1) 0))), (9, some (.s v9)), (10, some (.s (.int .i64 k)))]) ?_ _ _ _ ⟨0, .nils, .nils, [], Nat.zero_le _, rfl, (Gr.self h0 _), ⟨Nat.le_refl _, get_len, Ow.nil _ _, by simp⟩, Ow.nil _ _, off_nils _, by rw [get_len_add]; rfl, by simp, by simp, List.Pairwise.nil, by simp, by simp⟩
    rintro I hI m fr h' ⟨k, va, v9, l, hk, rfl, gr, ta, o9, off, hb, hl, hk12, hpw, hgood, rfl⟩
    refine ⟨by simp [keepF, fget], ?_⟩
    have rl := (rA.gr gr).len
    by_cases h12 : k < 12
    · have h12' : (k : Int) < 12 := by omega
      by_cases hlt : k < zs.length
      · obtain ⟨j0, q0, o0, ob0, vs0, rfl, c1, c2, c3, -, c4⟩ := (rA.gr gr).at encA_len hlt
        have c5 := lt_of_some c1
        have f1 := c4 1 (by omega)
        have f2 := c4 2 (by omega)
        have f3 := c4 3 (by omega)
        simp only [encA] at f1 f2 f3
        have f1' : vs0[(o0 + k) * 5 + 1]? = some (.int .i64 zs[k].y) := f1
        have f2' : vs0[(o0 + k) * 5 + 2]? = some (.int .i64 zs[k].r) := f2
        have f3' : vs0[(o0 + k) * 5 + 3]? = some (.int .i64 zs[k].p) := f3
        have y1 := fun h => within_ok zs[k].y 6 (by omega) h
        have y2 := fun h => within_ok zs[k].r 1000001 (by omega) h
        have y3 := fun h => within_ok zs[k].p 8 (by omega) h
        generalize zs[k].y % 6 = y at *
        generalize zs[k].r % 1000001 = r at *
        generalize zs[k].p % 8 = p at *
        have w3 : IntKind.i64.wrap ((k : Int) + 1) = ((k + 1 : Nat) : Int) := wrap_small (by omega) (by omega)
        have e0 : (k : Int).tmod 2 = ((k % 2 : Nat) : Int) := by rw [Int.tmod_eq_emod_of_nonneg (by omega)]; omega
        obtain ⟨q, hq⟩ : ∃ q, q = k % 2 := ⟨_, rfl⟩
        rw [← hq] at e0
        have q2 : q < 2 := by omega
        have q2' : q + 1 ≤ 2 := by omega
        have q2i : (q : Int) < 2 := by omega
        obtain ⟨J, hJ⟩ : ∃ J, ([.str ⟨#[117, 107]⟩, .str ⟨#[100, 101]⟩] : List SV)[q]? = some (.str J) := by
          have : q = 0 ∨ q = 1 := by omega
          rcases this with rfl | rfl <;> exact ⟨_, rfl⟩
        have grX := fun X => gr.app X
        simp [l9_0, l9_0_1, wpk_skip, wpk_seq, k_cond, wpk_block, wpk_exit, wpk_ret, wpk_loop, k_ops, k_draw0, t_nil, t_cons, KT_eq, KD_eq, wpo_nil, k_cons, k_step, mt_some, mtk_some, KO_eq, KP_eq, K_normal, K_ret, K_exit, KB_normal, KB_ret, KB_exit, KL_normal, KL_ret, KL_exit, k_ret, k_normal, stepE, isCall, calleeE, opE, wantE, odE, odS, odL, odSL, fget, fput, initE, keepF, List.map_cons, List.map_nil, binE, intOp, strOp, shOp, unE, eqpE, eqnE, neqB, ressE, resE, packL, packE, flat1, fcells, fillE, setL, cellsOf_bind, cellsO_own, cellsO_ro, lenE_sl, lenE_nils, lenE_sl0, bound, rep, minE, maxE, List.getElem?_cons_zero, List.getElem?_cons_succ, get_lt, set_lt, get_len, get_len_add, set_len, set_len_add, List.append_assoc, List.cons_append, List.nil_append, rl, hlt, h12, h12', -getElem?_pos]
        refine k_draw ?_
        simp [wpk_skip, wpk_seq, k_cond, wpk_block, wpk_exit, wpk_ret, wpk_loop, k_ops, k_draw0, t_nil, t_cons, KT_eq, KD_eq, wpo_nil, k_cons, k_step, mt_some, mtk_some, KO_eq, KP_eq, K_normal, K_ret, K_exit, KB_normal, KB_ret, KB_exit, KL_normal, KL_ret, KL_exit, k_ret, k_normal, stepE, isCall, calleeE, opE, wantE, odE, odS, odL, odSL, fget, fput, initE, keepF, List.map_cons, List.map_nil, binE, intOp, strOp, shOp, unE, eqpE, eqnE, neqB, ressE, resE, packL, packE, flat1, fcells, fillE, setL, cellsOf_bind, cellsO_own, cellsO_ro, lenE_sl, lenE_nils, lenE_sl0, bound, rep, minE, maxE, List.getElem?_cons_zero, List.getElem?_cons_succ, get_lt, set_lt, get_len, get_len_add, set_len, set_len_add, List.append_assoc, List.cons_append, List.nil_append, slotsG, slotsE, odT, odsT, optT, partsT, okPairs, okPair, changesE, frLt, nmV, nmVL, nmL, nmS, -getElem?_pos, c1, c2, c5, f1', f2', f3', y1, y2, y3, w3, hlt, e0, q2, q2', q2i, hJ]
        obtain ⟨H1, hH1⟩ : ∃ H1, H1 = h' ++ [LO.own 9 [.str ⟨#[117, 107]⟩, .str ⟨#[100, 101]⟩], LO.own 63 [.str J, .int .i64 y, .int .i64 r, .int .i64 p]] := ⟨_, rfl⟩
        have gS : Gr h' H1 := by rw [hH1]; exact Gr.self _ _
        have x1 : H1[h'.length + 1]? = some (.own 63 (encR ⟨J, y, r, p⟩)) := by rw [hH1, get_len_add]; rfl
        rw [← hH1]
        refine WPc.go (add_ok2 (ta.gr gS) J y r p) ?_
        rintro _ h2 ⟨c, rfl, v2, t2, hv2⟩
        have g2 := c.base (ta.gr gS) (gr.trans gS)
        have hbS := gS.get hb
        have hb2 : h2[h0.length + 1]? = some (.own 79 [.nils]) := by
          rw [c.same _ (lt_of_some hbS) (by omega) (tb_not (ta.gr gS) hbS)]; exact hbS
        have o2 : Ow h0.length h2 63 encR v9 l := ow_keep (o9.gr gS) fun q hq => c.same q (ow_lt (o9.gr gS) hq) (fun e => by
          subst e
          exact ow_not (o9.gr gS) (ta.gr gS).obj hq) (off q hq)
        have x2 : h2[h'.length + 1]? = some (.own 63 (encR ⟨J, y, r, p⟩)) := by
          rw [c.same _ (lt_of_some x1) (fun e => by have := gr.le; have := lt_of_some ta.obj; omega) (fun hq => by have := ow_lt ta.rows hq; omega)]; exact x1
        have off2 : Off v9 v2 := by
          rcases hv2 with rfl | hv2
          · exact off
          · exact off_new (o9.gr gS) hv2
        by_cases hok : ((addR l J y r p).1 == 0) = true
        · obtain ⟨k1, k2, k3⟩ := addR_ok hok
          rw [k3] at t2
          have x5 := lt_of_some x2
          have l9 := o2.len
          have hA := o2.app1 (y := 40) encR_len (by omega) [LO.own 63 (encR ⟨J, y, r, p⟩)] (encR ⟨J, y, r, p⟩)
          obtain ⟨f1, f2⟩ := Ow.step g2 o2 ⟨J, y, r, p⟩ [LO.own 63 (encR ⟨J, y, r, p⟩)] (n := l.length + 1) (cs := encR ⟨J, y, r, p⟩) (m := 1) rfl rfl rfl
          simp only [encR] at x2 hA f1 f2
          simp [wpk_skip, wpk_seq, k_cond, wpk_block, wpk_exit, wpk_ret, wpk_loop, k_ops, k_draw0, t_nil, t_cons, KT_eq, KD_eq, wpo_nil, k_cons, k_step, mt_some, mtk_some, KO_eq, KP_eq, K_normal, K_ret, K_exit, KB_normal, KB_ret, KB_exit, KL_normal, KL_ret, KL_exit, k_ret, k_normal, stepE, isCall, calleeE, opE, wantE, odE, odS, odL, odSL, fget, fput, initE, keepF, List.map_cons, List.map_nil, binE, intOp, strOp, shOp, unE, eqpE, eqnE, neqB, ressE, resE, packL, packE, flat1, fcells, fillE, setL, cellsOf_bind, cellsO_own, cellsO_ro, lenE_sl, lenE_nils, lenE_sl0, bound, rep, minE, maxE, List.getElem?_cons_zero, List.getElem?_cons_succ, get_lt, set_lt, get_len, get_len_add, set_len, set_len_add, List.append_assoc, List.cons_append, List.nil_append, -getElem?_pos, hok, x2, x5, l9, elems, hA, w3]
          obtain ⟨X, hX⟩ : ∃ X : LH, X = [LO.own 63 [.str J, .int .i64 y, .int .i64 r, .int .i64 p]] := ⟨_, rfl⟩
          rw [← hX] at f1 f2 ⊢
          have n9 : ∀ q, q < h2.length → ¬ isAt v9 q → (kill v9 (h2 ++ X) ++ [LO.own 63 (l.flatMap encR ++ [.str J, .int .i64 y, .int .i64 r, .int .i64 p])])[q]? = h2[q]? := fun q h1 h2' => by
            rw [kill_get h2' (by rw [List.length_append]; omega), get_lt h1]
          have n1 : ¬ isAt v9 h0.length := ow_not o2 t2.obj
          have n2 : ¬ isAt v9 (h0.length + 1) := ow_not o2 hb2
          refine ⟨_, by omega, hI _ _ _ ⟨k + 1, v2, _, l ++ [⟨J, y, r, p⟩], hlt, rfl, f1, tb_keep t2 (n9 _ (lt_of_some t2.obj) n1) (fun q hq => n9 q (ow_lt t2.rows hq) (fun h => off2 q h hq)), f2, ?_, by rw [n9 _ (lt_of_some hb2) n2]; exact hb2, by simp; omega, by omega, ?_, ?_, rfl⟩⟩
          · refine (off_new t2.rows ?_).symm
            rintro q ⟨p', o, n, e⟩
            have := (SV.sl.inj e).1
            omega
          · refine List.pairwise_append.2 ⟨hpw, List.pairwise_singleton _ _, fun a ha b hb => ?_⟩
            rw [List.mem_singleton.1 hb]
            exact k2 a ha
          · intro x hx
            rcases List.mem_append.1 hx with hx | hx
            · exact hgood x hx
            · rw [List.mem_singleton.1 hx]; exact k1
        · have hok' : ((addR l J y r p).1 == 0) = false := by simpa using hok
          have e2 : (addR l J y r p).2 = l := by
            rcases addR_cases l J y r p with ⟨_, e⟩ | ⟨e, _⟩
            · exact e
            · exact absurd e hok
          rw [e2] at t2
          simp [wpk_skip, wpk_seq, k_cond, wpk_block, wpk_exit, wpk_ret, wpk_loop, k_ops, k_draw0, t_nil, t_cons, KT_eq, KD_eq, wpo_nil, k_cons, k_step, mt_some, mtk_some, KO_eq, KP_eq, K_normal, K_ret, K_exit, KB_normal, KB_ret, KB_exit, KL_normal, KL_ret, KL_exit, k_ret, k_normal, stepE, isCall, calleeE, opE, wantE, odE, odS, odL, odSL, fget, fput, initE, keepF, List.map_cons, List.map_nil, binE, intOp, strOp, shOp, unE, eqpE, eqnE, neqB, ressE, resE, packL, packE, flat1, fcells, fillE, setL, cellsOf_bind, cellsO_own, cellsO_ro, lenE_sl, lenE_nils, lenE_sl0, bound, rep, minE, maxE, List.getElem?_cons_zero, List.getElem?_cons_succ, get_lt, set_lt, get_len, get_len_add, set_len, set_len_add, List.append_assoc, List.cons_append, List.nil_append, -getElem?_pos, hok', w3]
          exact ⟨_, by omega, hI _ _ _ ⟨k + 1, v2, v9, l, hlt, rfl, g2, t2, o2, off2, hb2, by omega, by omega, hpw, hgood, rfl⟩⟩
      · simp [wpk_skip, wpk_seq, k_cond, wpk_block, wpk_exit, wpk_ret, wpk_loop, k_ops, k_draw0, t_nil, t_cons, KT_eq, KD_eq, wpo_nil, k_cons, k_step, mt_some, mtk_some, KO_eq, KP_eq, K_normal, K_ret, K_exit, KB_normal, KB_ret, KB_exit, KL_normal, KL_ret, KL_exit, k_ret, k_normal, stepE, isCall, calleeE, opE, wantE, odE, odS, odL, odSL, fget, fput, initE, keepF, List.map_cons, List.map_nil, binE, intOp, strOp, shOp, unE, eqpE, eqnE, neqB, ressE, resE, packL, packE, flat1, fcells, fillE, setL, cellsOf_bind, cellsO_own, cellsO_ro, lenE_sl, lenE_nils, lenE_sl0, bound, rep, minE, maxE, List.getElem?_cons_zero, List.getElem?_cons_succ, get_lt, set_lt, get_len, get_len_add, set_len, set_len_add, List.append_assoc, List.cons_append, List.nil_append, -getElem?_pos, l9_0_1, l9_0, rl, hlt]
        exact hΦ _ _ _ ⟨rfl, va, v9, l, rfl, gr, ta, o9, off, hb, by omega, hpw, hgood⟩
    · have h12' : ¬ (k : Int) < 12 := by omega
      by_cases hlt : k < zs.length
      · simp [wpk_skip, wpk_seq, k_cond, wpk_block, wpk_exit, wpk_ret, wpk_loop, k_ops, k_draw0, t_nil, t_cons, KT_eq, KD_eq, wpo_nil, k_cons, k_step, mt_some, mtk_some, KO_eq, KP_eq, K_normal, K_ret, K_exit, KB_normal, KB_ret, KB_exit, KL_normal, KL_ret, KL_exit, k_ret, k_normal, stepE, isCall, calleeE, opE, wantE, odE, odS, odL, odSL, fget, fput, initE, keepF, List.map_cons, List.map_nil, binE, intOp, strOp, shOp, unE, eqpE, eqnE, neqB, ressE, resE, packL, packE, flat1, fcells, fillE, setL, cellsOf_bind, cellsO_own, cellsO_ro, lenE_sl, lenE_nils, lenE_sl0, bound, rep, minE, maxE, List.getElem?_cons_zero, List.getElem?_cons_succ, get_lt, set_lt, get_len, get_len_add, set_len, set_len_add, List.append_assoc, List.cons_append, List.nil_append, -getElem?_pos, l9_0_1, l9_0, rl, hlt, h12, h12']
        exact hΦ _ _ _ ⟨rfl, va, v9, l, rfl, gr, ta, o9, off, hb, by omega, hpw, hgood⟩
      · simp [wpk_skip, wpk_seq, k_cond, wpk_block, wpk_exit, wpk_ret, wpk_loop, k_ops, k_draw0, t_nil, t_cons, KT_eq, KD_eq, wpo_nil, k_cons, k_step, mt_some, mtk_some, KO_eq, KP_eq, K_normal, K_ret, K_exit, KB_normal, KB_ret, KB_exit, KL_normal, KL_ret, KL_exit, k_ret, k_normal, stepE, isCall, calleeE, opE, wantE, odE, odS, odL, odSL, fget, fput, initE, keepF, List.map_cons, List.map_nil, binE, intOp, strOp, shOp, unE, eqpE, eqnE, neqB, ressE, resE, packL, packE, flat1, fcells, fillE, setL, cellsOf_bind, cellsO_own, cellsO_ro, lenE_sl, lenE_nils, lenE_sl0, bound, rep, minE, maxE, List.getElem?_cons_zero, List.getElem?_cons_succ, get_lt, set_lt, get_len, get_len_add, set_len, set_len_add, List.append_assoc, List.cons_append, List.nil_append, -getElem?_pos, l9_0_1, l9_0, rl, hlt, h12, h12']
        exact hΦ _ _ _ ⟨rfl, va, v9, l, rfl, gr, ta, o9, off, hb, by omega, hpw, hgood⟩
  · rintro x fr' h1 ⟨rfl, va, v9, l, rfl, g1, ta, o9, off, hb, hl, hpw, hgood⟩
    have l9 := o9.len
    simp [wpk_skip, wpk_seq, k_cond, wpk_block, wpk_exit, wpk_ret, wpk_loop, k_ops, k_draw0, t_nil, t_cons, KT_eq, KD_eq, wpo_nil, k_cons, k_step, mt_some, mtk_some, KO_eq, KP_eq, K_normal, K_ret, K_exit, KB_normal, KB_ret, KB_exit, KL_normal, KL_ret, KL_exit, k_ret, k_normal, stepE, isCall, calleeE, opE, wantE, odE, odS, odL, odSL, fget, fput, initE, keepF, List.map_cons, List.map_nil, binE, intOp, strOp, shOp, unE, eqpE, eqnE, neqB, ressE, resE, packL, packE, flat1, fcells, fillE, setL, cellsOf_bind, cellsO_own, cellsO_ro, lenE_sl, lenE_nils, lenE_sl0, bound, rep, minE, maxE, List.getElem?_cons_zero, List.getElem?_cons_succ, get_lt, set_lt, get_len, get_len_add, set_len, set_len_add, List.append_assoc, List.cons_append, List.nil_append, -getElem?_pos, s9_5, l9]
    refine WPl.post (fun x fr' h' => x = .exit 2 ∧ ∃ vb, fr' = [(1, some (.s (.int .i64 at0))), (2, some (.s (.int .i64 year0))), (7, some (.s (.ptr h0.length 0))), (8, some (.s (.ptr (h0.length + 1) 0))), (9, some (.s v9))] ∧ Gr h0 h' ∧ Tb h0.length h' h0.length va l ∧ Ow h0.length h' 63 encR v9 l ∧ Tb h0.length h' (h0.length + 1) vb l.reverse) (fun Φ hΦ => ?_) ?_
    · refine WPl.inv2 (fun m fr h' => ∃ (k : Nat) (vb : SV), k ≤ l.length ∧ m = l.length - k ∧ Gr h0 h' ∧ Tb h0.length h' h0.length va l ∧ Ow h0.length h' 63 encR v9 l ∧ Tb h0.length h' (h0.length + 1) vb (l.reverse.take k) ∧ Off v9 vb ∧ Off va vb ∧
        fr = [(1, some (.s (.int .i64 at0))), (2, some (.s (.int .i64 year0))), (7, some (.s (.ptr h0.length 0))), (8, some (.s (.ptr (h0.length + 1) 0))), (9, some (.s v9)), (80, some (.s (.int .i64 l.length))), (81, some (.s (.int .i64 k)))]) ?_ _ _ _ ⟨0, .nils, Nat.zero_le _, rfl, g1, ta, o9, ⟨Nat.le_succ _, hb, Ow.nil _ _, by simp⟩, (off_nils _).symm, (off_nils _).symm, by simp⟩
      rintro I hI m fr h' ⟨k, vb, hk, rfl, gr, ta, o9, tb, off1, off2, rfl⟩
      refine ⟨by simp [keepF, fget], ?_⟩
      by_cases hlt : k < l.length
      · have w3 : IntKind.i64.wrap ((k : Int) + 1) = ((k + 1 : Nat) : Int) := wrap_small (by omega) (by omega)
        have w4 : IntKind.i64.wrap ((l.length : Int) - 1) = ((l.length - 1 : Nat) : Int) := by rw [wrap_small (by omega) (by omega)]; omega
        obtain ⟨i, hi⟩ : ∃ i, i = l.length - 1 - k := ⟨_, rfl⟩
        have w5 : IntKind.i64.wrap (((l.length - 1 : Nat) : Int) - k) = (i : Int) := by rw [wrap_small (by omega) (by omega)]; omega
        have hil : i < l.length := by omega
        have lr := o9.len
        obtain ⟨j0, q0, o0, ob0, vs0, rfl, c1, c2, c3, c4, -⟩ := (o9.rd encR_len).at encR_len hil
        have c5 := lt_of_some c1
        have el : l.reverse[k]'(by simpa using hlt) = l[i] := by rw [List.getElem_reverse]; congr 1; omega
        have hmem : l[i] ∈ l := List.getElem_mem hil
        have hap : ∀ a ∈ l.reverse.take k, Apt a l[i] := by
          intro a ha
          have hpr : l.reverse.Pairwise Apt := by
            refine List.pairwise_reverse.2 (hpw.imp fun h => apt_symm h)
          have e := List.take_append_drop k l.reverse
          rw [← e, List.drop_eq_getElem_cons (by simpa using hlt)] at hpr
          rw [← el]
          exact (List.pairwise_append.1 hpr).2.2 a ha _ List.mem_cons_self
        have lk : (l.reverse.take k).length = k := by simp; omega
        have hnew := addR_new (hgood _ hmem) hap (by omega)
        have e5 : l.reverse.take (k + 1) = l.reverse.take k ++ [l[i]] := by rw [List.take_succ_eq_append_getElem (by simpa using hlt), el]
        simp only [encR] at c4
        generalize l[i] = x at *
        have hcell : ∀ q, (h' ++ q)[j0]? = some ob0 := fun q => by rw [get_lt c5]; exact c1
        obtain ⟨H1, hH1⟩ : ∃ H1, H1 = h' ++ [LO.own 63 [.str x.j, .int .i64 x.y, .int .i64 x.r, .int .i64 x.p]] := ⟨_, rfl⟩
        have gS : Gr h' H1 := by rw [hH1]; exact Gr.self _ _
        simp [wpk_skip, wpk_seq, k_cond, wpk_block, wpk_exit, wpk_ret, wpk_loop, k_ops, k_draw0, t_nil, t_cons, KT_eq, KD_eq, wpo_nil, k_cons, k_step, mt_some, mtk_some, KO_eq, KP_eq, K_normal, K_ret, K_exit, KB_normal, KB_ret, KB_exit, KL_normal, KL_ret, KL_exit, k_ret, k_normal, stepE, isCall, calleeE, opE, wantE, odE, odS, odL, odSL, fget, fput, initE, keepF, List.map_cons, List.map_nil, binE, intOp, strOp, shOp, unE, eqpE, eqnE, neqB, ressE, resE, packL, packE, flat1, fcells, fillE, setL, cellsOf_bind, cellsO_own, cellsO_ro, lenE_sl, lenE_nils, lenE_sl0, bound, rep, minE, maxE, List.getElem?_cons_zero, List.getElem?_cons_succ, get_lt, set_lt, get_len, get_len_add, set_len, set_len_add, List.append_assoc, List.cons_append, List.nil_append, -getElem?_pos, l9_1_2, l9_1_1, l9_1, hlt, lr, w4, w5, hil, c1, c2, c3, c4, c5]
        rw [← hH1]
        refine WPc.go (add_ok2 (tb.gr gS) x.j x.y x.r x.p) ?_
        rw [hnew]
        rintro _ h2 ⟨c, rfl, v2, t2, hv2⟩
        have g2 := c.base (tb.gr gS) (gr.trans gS)
        have o9S := o9.gr gS
        have taS := ta.gr gS
        have tbS := tb.gr gS
        have o2 : Ow h0.length h2 63 encR (.sl j0 q0 o0 l.length) l := ow_keep o9S fun q hq => c.same q (ow_lt o9S hq) (fun e => by
          subst e
          exact ow_not o9S tbS.obj hq) (off1 q hq)
        have ta2 : Tb h0.length h2 h0.length va l := tb_keep taS (c.same _ (lt_of_some taS.obj) (by omega) (tb_not tbS taS.obj)) fun q hq => c.same q (ow_lt taS.rows hq) (fun e => by
          subst e
          exact tb_not taS tbS.obj hq) (off2 q hq)
        rw [← e5] at t2
        have off3 : Off (.sl j0 q0 o0 l.length) v2 := by
          rcases hv2 with rfl | hv2
          · exact off1
          · exact off_new o9S hv2
        have off4 : Off va v2 := by
          rcases hv2 with rfl | hv2
          · exact off2
          · exact off_new taS.rows hv2
        simp [wpk_skip, wpk_seq, k_cond, wpk_block, wpk_exit, wpk_ret, wpk_loop, k_ops, k_draw0, t_nil, t_cons, KT_eq, KD_eq, wpo_nil, k_cons, k_step, mt_some, mtk_some, KO_eq, KP_eq, K_normal, K_ret, K_exit, KB_normal, KB_ret, KB_exit, KL_normal, KL_ret, KL_exit, k_ret, k_normal, stepE, isCall, calleeE, opE, wantE, odE, odS, odL, odSL, fget, fput, initE, keepF, List.map_cons, List.map_nil, binE, intOp, strOp, shOp, unE, eqpE, eqnE, neqB, ressE, resE, packL, packE, flat1, fcells, fillE, setL, cellsOf_bind, cellsO_own, cellsO_ro, lenE_sl, lenE_nils, lenE_sl0, bound, rep, minE, maxE, List.getElem?_cons_zero, List.getElem?_cons_succ, get_lt, set_lt, get_len, get_len_add, set_len, set_len_add, List.append_assoc, List.cons_append, List.nil_append, -getElem?_pos, w3]
        exact ⟨_, by omega, hI _ _ _ ⟨k + 1, v2, hlt, rfl, g2, ta2, o2, t2, off3, off4, rfl⟩⟩
      · obtain rfl : k = l.length := by omega
        rw [List.take_of_length_le (by simp)] at tb
        simp [wpk_skip, wpk_seq, k_cond, wpk_block, wpk_exit, wpk_ret, wpk_loop, k_ops, k_draw0, t_nil, t_cons, KT_eq, KD_eq, wpo_nil, k_cons, k_step, mt_some, mtk_some, KO_eq, KP_eq, K_normal, K_ret, K_exit, KB_normal, KB_ret, KB_exit, KL_normal, KL_ret, KL_exit, k_ret, k_normal, stepE, isCall, calleeE, opE, wantE, odE, odS, odL, odSL, fget, fput, initE, keepF, List.map_cons, List.map_nil, binE, intOp, strOp, shOp, unE, eqpE, eqnE, neqB, ressE, resE, packL, packE, flat1, fcells, fillE, setL, cellsOf_bind, cellsO_own, cellsO_ro, lenE_sl, lenE_nils, lenE_sl0, bound, rep, minE, maxE, List.getElem?_cons_zero, List.getElem?_cons_succ, get_lt, set_lt, get_len, get_len_add, set_len, set_len_add, List.append_assoc, List.cons_append, List.nil_append, -getElem?_pos, l9_1_2, l9_1_1, l9_1, hlt]
        exact hΦ _ _ _ ⟨rfl, vb, rfl, gr, ta, o9, tb⟩
    · rintro x fr' h2 ⟨rfl, vb, rfl, g2, ta, o9, tb⟩
      have y1 := fun h => within_ok at0 10 (by omega) h
      have y2 := fun h => within_ok year0 8 (by omega) h
      generalize at0 % 10 = p at *
      generalize year0 % 8 = y at *
      have hrev := best_rev (j := uk) (y := y) (p := p) hpw
      simp [wpk_skip, wpk_seq, k_cond, wpk_block, wpk_exit, wpk_ret, wpk_loop, k_ops, k_draw0, t_nil, t_cons, KT_eq, KD_eq, wpo_nil, k_cons, k_step, mt_some, mtk_some, KO_eq, KP_eq, K_normal, K_ret, K_exit, KB_normal, KB_ret, KB_exit, KL_normal, KL_ret, KL_exit, k_ret, k_normal, stepE, isCall, calleeE, opE, wantE, odE, odS, odL, odSL, fget, fput, initE, keepF, List.map_cons, List.map_nil, binE, intOp, strOp, shOp, unE, eqpE, eqnE, neqB, ressE, resE, packL, packE, flat1, fcells, fillE, setL, cellsOf_bind, cellsO_own, cellsO_ro, lenE_sl, lenE_nils, lenE_sl0, bound, rep, minE, maxE, List.getElem?_cons_zero, List.getElem?_cons_succ, get_lt, set_lt, get_len, get_len_add, set_len, set_len_add, List.append_assoc, List.cons_append, List.nil_append, -getElem?_pos, s9_6, s9_7, y1, y2]
      refine WPc.go (ta.rate uk y p) ?_
      rintro _ h3 ⟨g3, rfl⟩
      simp [wpk_skip, wpk_seq, k_cond, wpk_block, wpk_exit, wpk_ret, wpk_loop, k_ops, k_draw0, t_nil, t_cons, KT_eq, KD_eq, wpo_nil, k_cons, k_step, mt_some, mtk_some, KO_eq, KP_eq, K_normal, K_ret, K_exit, KB_normal, KB_ret, KB_exit, KL_normal, KL_ret, KL_exit, k_ret, k_normal, stepE, isCall, calleeE, opE, wantE, odE, odS, odL, odSL, fget, fput, initE, keepF, List.map_cons, List.map_nil, binE, intOp, strOp, shOp, unE, eqpE, eqnE, neqB, ressE, resE, packL, packE, flat1, fcells, fillE, setL, cellsOf_bind, cellsO_own, cellsO_ro, lenE_sl, lenE_nils, lenE_sl0, bound, rep, minE, maxE, List.getElem?_cons_zero, List.getElem?_cons_succ, get_lt, set_lt, get_len, get_len_add, set_len, set_len_add, List.append_assoc, List.cons_append, List.nil_append, -getElem?_pos, s9_8]
      refine WPc.go ((tb.gr g3).rate uk y p) ?_
      rw [hrev]
      rintro _ h4 ⟨g4, rfl⟩
      have o4 := o9.gr (g3.trans g4)
      obtain ⟨s, hs⟩ : ∃ s, s = bestF uk y p l := ⟨_, rfl⟩
      rw [← hs]
      simp [wpk_skip, wpk_seq, k_cond, wpk_block, wpk_exit, wpk_ret, wpk_loop, k_ops, k_draw0, t_nil, t_cons, KT_eq, KD_eq, wpo_nil, k_cons, k_step, mt_some, mtk_some, KO_eq, KP_eq, K_normal, K_ret, K_exit, KB_normal, KB_ret, KB_exit, KL_normal, KL_ret, KL_exit, k_ret, k_normal, stepE, isCall, calleeE, opE, wantE, odE, odS, odL, odSL, fget, fput, initE, keepF, List.map_cons, List.map_nil, binE, intOp, strOp, shOp, unE, eqpE, eqnE, neqB, ressE, resE, packL, packE, flat1, fcells, fillE, setL, cellsOf_bind, cellsO_own, cellsO_ro, lenE_sl, lenE_nils, lenE_sl0, bound, rep, minE, maxE, List.getElem?_cons_zero, List.getElem?_cons_succ, get_lt, set_lt, get_len, get_len_add, set_len, set_len_add, List.append_assoc, List.cons_append, List.nil_append, -getElem?_pos, s9_9, s9_10, o4.len]
      refine WPl.post (fun x fr' h' => x = .exit 4 ∧ fr' = [(14, some (.s (.int .i64 (rateOf s)))), (15, some (.s (.bool s.isSome))), (16, some (.s (.int .i64 (rateOf s)))), (17, some (.s (.bool s.isSome))), (18, some (.s (.ptr h4.length 0))), (19, some (.s (.bool s.isSome)))] ∧ h'[h4.length]? = some (.own 63 (encR (s.getD ⟨⟨#[]⟩, -1, 0, 0⟩)))) (fun Φ hΦ => ?_) ?_
      · refine WPl.inv2 (fun n fr h' => Gr h4 h' ∧ ∃ (k : Nat) (s0 : Option Ro), k ≤ l.length ∧ n = l.length - k ∧ h'[h4.length]? = some (.own 63 (encR (s0.getD ⟨⟨#[]⟩, -1, 0, 0⟩))) ∧ (l.drop k).foldl (stepB uk y p) s0 = s ∧
          fr = [(1, some (.s (.int .i64 p))), (2, some (.s (.int .i64 y))), (14, some (.s (.int .i64 (rateOf s)))), (15, some (.s (.bool s.isSome))), (16, some (.s (.int .i64 (rateOf s)))), (17, some (.s (.bool s.isSome))), (18, some (.s (.ptr h4.length 0))), (19, some (.s (.bool s0.isSome))), (123, some (.s v9)), (124, some (.s (.int .i64 l.length))), (125, some (.s (.int .i64 k)))]) ?_ _ _ _ ⟨Gr.self _ _, 0, none, Nat.zero_le _, rfl, get_len, hs.symm, rfl⟩
        rintro I hI n fr h' ⟨gr, k, s0, hk, rfl, hx, he, rfl⟩
        refine ⟨by simp [keepF, fget], ?_⟩
        by_cases hlt : k < l.length
        · obtain ⟨j0, p0, q0, ob0, vs0, rfl, c1, c2, c3, c4, -⟩ := ((o4.gr gr).rd encR_len).at encR_len hlt
          have c5 := lt_of_some c1
          have lx := lt_of_some hx
          rw [List.drop_eq_getElem_cons hlt] at he
          rw [List.foldl_cons] at he
          have w3 : IntKind.i64.wrap ((k : Int) + 1) = ((k + 1 : Nat) : Int) := wrap_small (by omega) (by omega)
          simp only [encR] at c4 hx
          generalize l[k] = x at *
          have skip : stepB uk y p s0 x = s0 → ∃ m, m < l.length - k ∧ I m [(1, some (.s (.int .i64 p))), (2, some (.s (.int .i64 y))), (14, some (.s (.int .i64 (rateOf s)))), (15, some (.s (.bool s.isSome))), (16, some (.s (.int .i64 (rateOf s)))), (17, some (.s (.bool s.isSome))), (18, some (.s (.ptr h4.length 0))), (19, some (.s (.bool s0.isSome))), (123, some (.s (.sl j0 p0 q0 l.length))), (124, some (.s (.int .i64 l.length))), (125, some (.s (.int .i64 ((k : Int) + 1))))] (h' ++ [LO.own 63 [.str x.j, .int .i64 x.y, .int .i64 x.r, .int .i64 x.p]]) := by
            intro e
            rw [e] at he
            exact ⟨_, by omega, hI _ _ _ ⟨gr.app _, k + 1, s0, hlt, rfl, by rw [get_lt lx]; exact hx, he, rfl⟩⟩
          have take : stepB uk y p s0 x = some x → ∃ m, m < l.length - k ∧ I m [(1, some (.s (.int .i64 p))), (2, some (.s (.int .i64 y))), (14, some (.s (.int .i64 (rateOf s)))), (15, some (.s (.bool s.isSome))), (16, some (.s (.int .i64 (rateOf s)))), (17, some (.s (.bool s.isSome))), (18, some (.s (.ptr h4.length 0))), (19, some (.s (.bool true))), (123, some (.s (.sl j0 p0 q0 l.length))), (124, some (.s (.int .i64 l.length))), (125, some (.s (.int .i64 ((k : Int) + 1))))] (h'.set h4.length (.own 63 [.str x.j, .int .i64 x.y, .int .i64 x.r, .int .i64 x.p]) ++ [LO.own 63 [.str x.j, .int .i64 x.y, .int .i64 x.r, .int .i64 x.p]]) := by
            intro e
            rw [e] at he
            exact ⟨_, by omega, hI _ _ _ ⟨(gr.set _ (Nat.le_refl _)).app _, k + 1, some x, hlt, rfl, by rw [get_lt (by rw [List.length_set]; exact lx), get_self lx]; rfl, he, rfl⟩⟩
          unfold stepB at skip take
          have ul : uk.toList = [117, 107] := by simp [uk]
          cases e1 : x.j.toList == uk.toList with
          | false =>
            have := skip (by rw [if_pos (.inl e1)])
            rw [ul] at e1
            have e1n : ¬ x.j.toList = [117, 107] := by simpa using e1
            simp [wpk_skip, wpk_seq, k_cond, wpk_block, wpk_exit, wpk_ret, wpk_loop, k_ops, k_draw0, t_nil, t_cons, KT_eq, KD_eq, wpo_nil, k_cons, k_step, mt_some, mtk_some, KO_eq, KP_eq, K_normal, K_ret, K_exit, KB_normal, KB_ret, KB_exit, KL_normal, KL_ret, KL_exit, k_ret, k_normal, stepE, isCall, calleeE, opE, wantE, odE, odS, odL, odSL, fget, fput, initE, keepF, List.map_cons, List.map_nil, binE, intOp, strOp, shOp, unE, eqpE, eqnE, neqB, ressE, resE, packL, packE, flat1, fcells, fillE, setL, cellsOf_bind, cellsO_own, cellsO_ro, lenE_sl, lenE_nils, lenE_sl0, bound, rep, minE, maxE, List.getElem?_cons_zero, List.getElem?_cons_succ, get_lt, set_lt, get_len, get_len_add, set_len, set_len_add, List.append_assoc, List.cons_append, List.nil_append, -getElem?_pos, l9_2_2, l9_2_1, l9_2, hlt, c1, c2, c3, c4, c5, hx, lx, e1, e1n, w3]
            exact this
          | true =>
          have e1o := e1
          rw [ul] at e1
          have e1n : x.j.toList = [117, 107] := by simpa using e1
          by_cases e2 : x.y > y
          · have := skip (by rw [if_pos (.inr (.inl e2))])
            have e2' : ¬ x.y ≤ y := by omega
            simp [wpk_skip, wpk_seq, k_cond, wpk_block, wpk_exit, wpk_ret, wpk_loop, k_ops, k_draw0, t_nil, t_cons, KT_eq, KD_eq, wpo_nil, k_cons, k_step, mt_some, mtk_some, KO_eq, KP_eq, K_normal, K_ret, K_exit, KB_normal, KB_ret, KB_exit, KL_normal, KL_ret, KL_exit, k_ret, k_normal, stepE, isCall, calleeE, opE, wantE, odE, odS, odL, odSL, fget, fput, initE, keepF, List.map_cons, List.map_nil, binE, intOp, strOp, shOp, unE, eqpE, eqnE, neqB, ressE, resE, packL, packE, flat1, fcells, fillE, setL, cellsOf_bind, cellsO_own, cellsO_ro, lenE_sl, lenE_nils, lenE_sl0, bound, rep, minE, maxE, List.getElem?_cons_zero, List.getElem?_cons_succ, get_lt, set_lt, get_len, get_len_add, set_len, set_len_add, List.append_assoc, List.cons_append, List.nil_append, -getElem?_pos, l9_2_2, l9_2_1, l9_2, hlt, c1, c2, c3, c4, c5, hx, lx, e1, e1n, e2, e2', w3]
            exact this
          have e2' : x.y ≤ y := by omega
          by_cases e3 : x.p > p
          · have := skip (by rw [if_pos (.inr (.inr e3))])
            have e3' : ¬ x.p ≤ p := by omega
            simp [wpk_skip, wpk_seq, k_cond, wpk_block, wpk_exit, wpk_ret, wpk_loop, k_ops, k_draw0, t_nil, t_cons, KT_eq, KD_eq, wpo_nil, k_cons, k_step, mt_some, mtk_some, KO_eq, KP_eq, K_normal, K_ret, K_exit, KB_normal, KB_ret, KB_exit, KL_normal, KL_ret, KL_exit, k_ret, k_normal, stepE, isCall, calleeE, opE, wantE, odE, odS, odL, odSL, fget, fput, initE, keepF, List.map_cons, List.map_nil, binE, intOp, strOp, shOp, unE, eqpE, eqnE, neqB, ressE, resE, packL, packE, flat1, fcells, fillE, setL, cellsOf_bind, cellsO_own, cellsO_ro, lenE_sl, lenE_nils, lenE_sl0, bound, rep, minE, maxE, List.getElem?_cons_zero, List.getElem?_cons_succ, get_lt, set_lt, get_len, get_len_add, set_len, set_len_add, List.append_assoc, List.cons_append, List.nil_append, -getElem?_pos, l9_2_2, l9_2_1, l9_2, hlt, c1, c2, c3, c4, c5, hx, lx, e1, e1n, e2, e2', e3, e3', w3]
            exact this
          have e3' : x.p ≤ p := by omega
          rw [if_neg (by rw [e1o]; simp; omega)] at skip take
          cases s0 with
          | none =>
            have := take rfl
            simp [wpk_skip, wpk_seq, k_cond, wpk_block, wpk_exit, wpk_ret, wpk_loop, k_ops, k_draw0, t_nil, t_cons, KT_eq, KD_eq, wpo_nil, k_cons, k_step, mt_some, mtk_some, KO_eq, KP_eq, K_normal, K_ret, K_exit, KB_normal, KB_ret, KB_exit, KL_normal, KL_ret, KL_exit, k_ret, k_normal, stepE, isCall, calleeE, opE, wantE, odE, odS, odL, odSL, fget, fput, initE, keepF, List.map_cons, List.map_nil, binE, intOp, strOp, shOp, unE, eqpE, eqnE, neqB, ressE, resE, packL, packE, flat1, fcells, fillE, setL, cellsOf_bind, cellsO_own, cellsO_ro, lenE_sl, lenE_nils, lenE_sl0, bound, rep, minE, maxE, List.getElem?_cons_zero, List.getElem?_cons_succ, get_lt, set_lt, get_len, get_len_add, set_len, set_len_add, List.append_assoc, List.cons_append, List.nil_append, -getElem?_pos, l9_2_2, l9_2_1, l9_2, hlt, c1, c2, c3, c4, c5, hx, lx, e1, e1n, e2, e2', e3, e3', w3]
            exact this
          | some b =>
            have hx' : h'[h4.length]? = some (.own 63 [.str b.j, .int .i64 b.y, .int .i64 b.r, .int .i64 b.p]) := hx
            simp only at skip take
            by_cases e4 : x.y > b.y
            · have := take (by rw [if_pos (.inl e4)])
              simp [wpk_skip, wpk_seq, k_cond, wpk_block, wpk_exit, wpk_ret, wpk_loop, k_ops, k_draw0, t_nil, t_cons, KT_eq, KD_eq, wpo_nil, k_cons, k_step, mt_some, mtk_some, KO_eq, KP_eq, K_normal, K_ret, K_exit, KB_normal, KB_ret, KB_exit, KL_normal, KL_ret, KL_exit, k_ret, k_normal, stepE, isCall, calleeE, opE, wantE, odE, odS, odL, odSL, fget, fput, initE, keepF, List.map_cons, List.map_nil, binE, intOp, strOp, shOp, unE, eqpE, eqnE, neqB, ressE, resE, packL, packE, flat1, fcells, fillE, setL, cellsOf_bind, cellsO_own, cellsO_ro, lenE_sl, lenE_nils, lenE_sl0, bound, rep, minE, maxE, List.getElem?_cons_zero, List.getElem?_cons_succ, get_lt, set_lt, get_len, get_len_add, set_len, set_len_add, List.append_assoc, List.cons_append, List.nil_append, -getElem?_pos, l9_2_2, l9_2_1, l9_2, hlt, c1, c2, c3, c4, c5, hx', lx, e1, e1n, e2, e2', e3, e3', e4, w3]
              exact this
            by_cases e5 : x.y = b.y
            · have e5' : (x.y == b.y) = true := by simp [e5]
              by_cases e6 : x.p > b.p
              · have := take (by rw [if_pos (.inr ⟨e5, e6⟩)])
                simp [wpk_skip, wpk_seq, k_cond, wpk_block, wpk_exit, wpk_ret, wpk_loop, k_ops, k_draw0, t_nil, t_cons, KT_eq, KD_eq, wpo_nil, k_cons, k_step, mt_some, mtk_some, KO_eq, KP_eq, K_normal, K_ret, K_exit, KB_normal, KB_ret, KB_exit, KL_normal, KL_ret, KL_exit, k_ret, k_normal, stepE, isCall, calleeE, opE, wantE, odE, odS, odL, odSL, fget, fput, initE, keepF, List.map_cons, List.map_nil, binE, intOp, strOp, shOp, unE, eqpE, eqnE, neqB, ressE, resE, packL, packE, flat1, fcells, fillE, setL, cellsOf_bind, cellsO_own, cellsO_ro, lenE_sl, lenE_nils, lenE_sl0, bound, rep, minE, maxE, List.getElem?_cons_zero, List.getElem?_cons_succ, get_lt, set_lt, get_len, get_len_add, set_len, set_len_add, List.append_assoc, List.cons_append, List.nil_append, -getElem?_pos, l9_2_2, l9_2_1, l9_2, hlt, c1, c2, c3, c4, c5, hx', lx, e1, e1n, e2, e2', e3, e3', e4, e5', e6, w3]
                exact this
              · have := skip (by rw [if_neg (by omega)])
                simp [wpk_skip, wpk_seq, k_cond, wpk_block, wpk_exit, wpk_ret, wpk_loop, k_ops, k_draw0, t_nil, t_cons, KT_eq, KD_eq, wpo_nil, k_cons, k_step, mt_some, mtk_some, KO_eq, KP_eq, K_normal, K_ret, K_exit, KB_normal, KB_ret, KB_exit, KL_normal, KL_ret, KL_exit, k_ret, k_normal, stepE, isCall, calleeE, opE, wantE, odE, odS, odL, odSL, fget, fput, initE, keepF, List.map_cons, List.map_nil, binE, intOp, strOp, shOp, unE, eqpE, eqnE, neqB, ressE, resE, packL, packE, flat1, fcells, fillE, setL, cellsOf_bind, cellsO_own, cellsO_ro, lenE_sl, lenE_nils, lenE_sl0, bound, rep, minE, maxE, List.getElem?_cons_zero, List.getElem?_cons_succ, get_lt, set_lt, get_len, get_len_add, set_len, set_len_add, List.append_assoc, List.cons_append, List.nil_append, -getElem?_pos, l9_2_2, l9_2_1, l9_2, hlt, c1, c2, c3, c4, c5, hx', lx, e1, e1n, e2, e2', e3, e3', e4, e5', e6, w3]
                exact this
            · have e5' : (x.y == b.y) = false := by simp [e5]
              have := skip (by rw [if_neg (by omega)])
              simp [wpk_skip, wpk_seq, k_cond, wpk_block, wpk_exit, wpk_ret, wpk_loop, k_ops, k_draw0, t_nil, t_cons, KT_eq, KD_eq, wpo_nil, k_cons, k_step, mt_some, mtk_some, KO_eq, KP_eq, K_normal, K_ret, K_exit, KB_normal, KB_ret, KB_exit, KL_normal, KL_ret, KL_exit, k_ret, k_normal, stepE, isCall, calleeE, opE, wantE, odE, odS, odL, odSL, fget, fput, initE, keepF, List.map_cons, List.map_nil, binE, intOp, strOp, shOp, unE, eqpE, eqnE, neqB, ressE, resE, packL, packE, flat1, fcells, fillE, setL, cellsOf_bind, cellsO_own, cellsO_ro, lenE_sl, lenE_nils, lenE_sl0, bound, rep, minE, maxE, List.getElem?_cons_zero, List.getElem?_cons_succ, get_lt, set_lt, get_len, get_len_add, set_len, set_len_add, List.append_assoc, List.cons_append, List.nil_append, -getElem?_pos, l9_2_2, l9_2_1, l9_2, hlt, c1, c2, c3, c4, c5, hx', lx, e1, e1n, e2, e2', e3, e3', e4, e5', w3]
              exact this
        · obtain rfl : k = l.length := by omega
          rw [List.drop_length] at he
          simp only [List.foldl_nil] at he
          subst he
          simp [wpk_skip, wpk_seq, k_cond, wpk_block, wpk_exit, wpk_ret, wpk_loop, k_ops, k_draw0, t_nil, t_cons, KT_eq, KD_eq, wpo_nil, k_cons, k_step, mt_some, mtk_some, KO_eq, KP_eq, K_normal, K_ret, K_exit, KB_normal, KB_ret, KB_exit, KL_normal, KL_ret, KL_exit, k_ret, k_normal, stepE, isCall, calleeE, opE, wantE, odE, odS, odL, odSL, fget, fput, initE, keepF, List.map_cons, List.map_nil, binE, intOp, strOp, shOp, unE, eqpE, eqnE, neqB, ressE, resE, packL, packE, flat1, fcells, fillE, setL, cellsOf_bind, cellsO_own, cellsO_ro, lenE_sl, lenE_nils, lenE_sl0, bound, rep, minE, maxE, List.getElem?_cons_zero, List.getElem?_cons_succ, get_lt, set_lt, get_len, get_len_add, set_len, set_len_add, List.append_assoc, List.cons_append, List.nil_append, -getElem?_pos, l9_2_2, l9_2_1, l9_2, hlt]
          exact hΦ _ _ _ ⟨rfl, rfl, hx⟩
      · rintro x fr' h5 ⟨rfl, rfl, hx⟩
        have lx := lt_of_some hx
        simp only [encR] at hx
        cases s with
        | none =>
          simp [wpk_skip, wpk_seq, k_cond, wpk_block, wpk_exit, wpk_ret, wpk_loop, k_ops, k_draw0, t_nil, t_cons, KT_eq, KD_eq, wpo_nil, k_cons, k_step, mt_some, mtk_some, KO_eq, KP_eq, K_normal, K_ret, K_exit, KB_normal, KB_ret, KB_exit, KL_normal, KL_ret, KL_exit, k_ret, k_normal, stepE, isCall, calleeE, opE, wantE, odE, odS, odL, odSL, fget, fput, initE, keepF, List.map_cons, List.map_nil, binE, intOp, strOp, shOp, unE, eqpE, eqnE, neqB, ressE, resE, packL, packE, flat1, fcells, fillE, setL, cellsOf_bind, cellsO_own, cellsO_ro, lenE_sl, lenE_nils, lenE_sl0, bound, rep, minE, maxE, List.getElem?_cons_zero, List.getElem?_cons_succ, get_lt, set_lt, get_len, get_len_add, set_len, set_len_add, List.append_assoc, List.cons_append, List.nil_append, -getElem?_pos, s9_11, hx, lx]
          refine WPc.go (wakes_ok _) ?_
          rintro _ h6 ⟨g6, rfl⟩
          simp [wpk_skip, wpk_seq, k_cond, wpk_block, wpk_exit, wpk_ret, wpk_loop, k_ops, k_draw0, t_nil, t_cons, KT_eq, KD_eq, wpo_nil, k_cons, k_step, mt_some, mtk_some, KO_eq, KP_eq, K_normal, K_ret, K_exit, KB_normal, KB_ret, KB_exit, KL_normal, KL_ret, KL_exit, k_ret, k_normal, stepE, isCall, calleeE, opE, wantE, odE, odS, odL, odSL, fget, fput, initE, keepF, List.map_cons, List.map_nil, binE, intOp, strOp, shOp, unE, eqpE, eqnE, neqB, ressE, resE, packL, packE, flat1, fcells, fillE, setL, cellsOf_bind, cellsO_own, cellsO_ro, lenE_sl, lenE_nils, lenE_sl0, bound, rep, minE, maxE, List.getElem?_cons_zero, List.getElem?_cons_succ, get_lt, set_lt, get_len, get_len_add, set_len, set_len_add, List.append_assoc, List.cons_append, List.nil_append, -getElem?_pos]
          exact hΨ _ _ rfl
        | some b =>
          simp [wpk_skip, wpk_seq, k_cond, wpk_block, wpk_exit, wpk_ret, wpk_loop, k_ops, k_draw0, t_nil, t_cons, KT_eq, KD_eq, wpo_nil, k_cons, k_step, mt_some, mtk_some, KO_eq, KP_eq, K_normal, K_ret, K_exit, KB_normal, KB_ret, KB_exit, KL_normal, KL_ret, KL_exit, k_ret, k_normal, stepE, isCall, calleeE, opE, wantE, odE, odS, odL, odSL, fget, fput, initE, keepF, List.map_cons, List.map_nil, binE, intOp, strOp, shOp, unE, eqpE, eqnE, neqB, ressE, resE, packL, packE, flat1, fcells, fillE, setL, cellsOf_bind, cellsO_own, cellsO_ro, lenE_sl, lenE_nils, lenE_sl0, bound, rep, minE, maxE, List.getElem?_cons_zero, List.getElem?_cons_succ, get_lt, set_lt, get_len, get_len_add, set_len, set_len_add, List.append_assoc, List.cons_append, List.nil_append, -getElem?_pos, s9_11, hx, lx, rateOf]
          refine WPc.go (wakes_ok _) ?_
          rintro _ h6 ⟨g6, rfl⟩
          simp [wpk_skip, wpk_seq, k_cond, wpk_block, wpk_exit, wpk_ret, wpk_loop, k_ops, k_draw0, t_nil, t_cons, KT_eq, KD_eq, wpo_nil, k_cons, k_step, mt_some, mtk_some, KO_eq, KP_eq, K_normal, K_ret, K_exit, KB_normal, KB_ret, KB_exit, KL_normal, KL_ret, KL_exit, k_ret, k_normal, stepE, isCall, calleeE, opE, wantE, odE, odS, odL, odSL, fget, fput, initE, keepF, List.map_cons, List.map_nil, binE, intOp, strOp, shOp, unE, eqpE, eqnE, neqB, ressE, resE, packL, packE, flat1, fcells, fillE, setL, cellsOf_bind, cellsO_own, cellsO_ro, lenE_sl, lenE_nils, lenE_sl0, bound, rep, minE, maxE, List.getElem?_cons_zero, List.getElem?_cons_succ, get_lt, set_lt, get_len, get_len_add, set_len, set_len_add, List.append_assoc, List.cons_append, List.nil_append, -getElem?_pos]
          exact hΨ _ _ rfl
end Go.Proofs.Ytcimcccnhbbncaa.Ev.CE
