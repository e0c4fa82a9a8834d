/- Bytes as commands, on the small machine. -/
import Derived.Test.YtbgfcgmbihhlbaaDoorWrD
set_option linter.unusedSimpArgs false
set_option linter.unusedVariables false
namespace Go.Proofs.YtbgfcgmbihhlbaaDoor.Ev.CW
open Go
open CK (Cm encC fieldsL fieldsB okC cmOf_enc)

theorem wpk_scope2 {C : Nat → Option EF} {Φ : Ex → Fr → LH → Prop} {fr : Fr} {h : LH} {b : EC} (I₀ : Nat → Nat → Fr → LH → Prop) (n : Nat) (h0 : ∀ I : Nat → Nat → Fr → LH → Prop, (∀ m l fr h, I₀ m l fr h → I m l fr h) → WPk C b fr h (KS b (fun l fr h => ∃ m, m < n ∧ I m l fr h) Φ))
    (hs : ∀ I : Nat → Nat → Fr → LH → Prop, (∀ m l fr h, I₀ m l fr h → I m l fr h) → ∀ n l fr h, I₀ n l fr h → WPa C b l fr h (KS b (fun l' fr' h' => ∃ m, m < n ∧ I m l' fr' h') Φ)) : WPk C (.scope b) fr h Φ :=
  wpk_scope I₀ n (h0 I₀ fun _ _ _ _ x => x) (hs I₀ fun _ _ _ _ x => x)

theorem cntF_len (n : Nat) (s : St) : (cntF n s).2.1.length ≤ s.1.length := by
  unfold cntF
  split
  · exact Nat.le_refl _
  · simp only [List.length_drop]; omega
theorem takeS_len (n : Int) (s : St) : (takeS n s).2.1.length ≤ s.1.length := by
  unfold takeS
  split
  · exact Nat.le_refl _
  · simp only [List.length_drop]; omega
theorem step_len (q : Cm × St) (f : UInt8) : (stepF q f).2.1.length ≤ q.2.1.length := by
  unfold stepF
  split
  · exact Nat.le_trans (takeS_len _ _) (cntF_len _ _)
  · exact cntF_len _ _
theorem fold_len : ∀ (l : List UInt8) (q : Cm × St), (l.foldl stepF q).2.1.length ≤ q.2.1.length
  | [], _ => Nat.le_refl _
  | f :: l, q => Nat.le_trans (fold_len l _) (step_len q f)
theorem command_lt {l : List Int} (hl : l ≠ []) : (commandF (l, false)).2.1.length < l.length := by
  unfold commandF
  refine Nat.lt_of_le_of_lt (fold_len _ _) ?_
  cases l with
  | nil => exact absurd rfl hl
  | cons x r =>
    unfold cntF takeF
    have e : ¬ ((r.length : Int) + 1 < 1) := by omega
    simp [e]

/-- The commands of bytes, or where there is none. -/
def unpackN (tot : Nat) : Nat → List Int → List Cm → List Cm ⊕ Nat
  | 0, _, _ => .inr 0
  | n + 1, l, acc =>
    if l = [] then .inl acc
    else if !(commandF (l, false)).2.2 && okC (commandF (l, false)).1 then unpackN tot n (commandF (l, false)).2.1 (acc ++ [(commandF (l, false)).1])
    else .inr (tot - l.length)
theorem unpackN_more {tot : Nat} : ∀ {n m : Nat} {l : List Int} {acc : List Cm}, l.length < n → n ≤ m → unpackN tot m l acc = unpackN tot n l acc
  | 0, _, _, _, h, _ => by omega
  | n + 1, 0, _, _, _, h => by omega
  | n + 1, m + 1, l, acc, h, hm => by
    simp only [unpackN]
    by_cases e : l = []
    · rw [if_pos e, if_pos e]
    · rw [if_neg e, if_neg e]
      split
      · have := command_lt e
        exact unpackN_more (by omega) (by omega)
      · rfl

theorem Rr.kill {h : LH} {i b : Nat} {l : List Int} {bad : Bool} {v : SV} {acc : List Cm} (r : Rr h i l bad) (ow : Ow b h 23 encC v acc) (q s : LH) : Rr (kill v (h ++ q) ++ s) i l bad := by
  obtain ⟨w, r1, r2, r3⟩ := r
  refine ⟨w, Ow.kill_get ow r1 (fun vs e => by cases e) q s, ?_, r3⟩
  rcases r2 with r2 | ⟨j, p, o, ob, vs, s1, s2, s3, s4⟩
  · exact .inl r2
  · exact .inr ⟨j, p, o, ob, vs, s1, Ow.kill_get ow s2 (fun vs' e => by subst e; cases s3) q s, s3, s4⟩

/-- What Unpack hands back. -/
def UnR (hb : Nat) (R : List Cm ⊕ Nat) (u : FV) (h' : LH) : Prop := match R with
  | .inl cs => ∃ w, u = .tup [.s w, .s (.int .i64 0), .s (.int .i64 0)] ∧ Ow hb h' 23 encC w cs
  | .inr a => u = .tup [.s .nils, .s (.int .i64 a), .s (.int .i64 2)]

set_option maxRecDepth 20000 in
set_option maxHeartbeats 4000000 in
theorem unpack_ok {h : LH} {v : SV} {l : List Int} (r : Rd h 5 1 encB v l) (hv : ∀ j p o, v ≠ .sl0 j p o) (hb : isB l) (hl : l.length < 1000000) :
    WPc C 12 [.s v] h fun u h' => Gr h h' ∧ UnR h.length (unpackN l.length (l.length + 1) l []) u h' := by
  refine WPc.post fun Ψ hΨ => ?_
  refine WPc.intro (e := e12) rfl (by simp [e12]) ?_
  show WPk C b12 _ _ (KR [.tmp 2, .tmp 3, .tmp 4] _)
  obtain ⟨R, hR⟩ : ∃ R, R = unpackN l.length (l.length + 1) l [] := ⟨_, rfl⟩
  rw [← hR] at hΨ
  simp [wpk_skip, wpk_seq, k_cond, wpk_block, wpk_exit, wpk_ret, wpk_goto, wpk_label, wpk_loop, k_ops, k_draw0, t_nil, t_cons, KT_eq, KD_eq, wpo_nil, k_cons, k_step, mt_some, mtk_some, KO_eq, KP_eq, K_normal, K_ret, K_exit, KB_normal, KB_ret, KB_exit, KL_normal, KL_ret, KL_exit, K_goto, KB_goto, KL_goto, KS_goto, KS_ret, KS_normal, KS_exit, k_ret, k_normal, stepE, isCall, calleeE, opE, wantE, odE, odS, odL, odSL, fget, fput, initE, keepF, List.map_cons, List.map_nil, binE, intOp, strOp, shOp, unE, eqpE, eqnE, neqB, ressE, resE, packL, packE, flat1, fcells, fillE, setL, cellsOf_bind, cellsO_own, cellsO_ro, lenE_sl, lenE_nils, lenE_sl0, bound, rep, minE, maxE, Option.getD_some, Option.getD_none, isKey, nlS, List.getElem?_cons_zero, List.getElem?_cons_succ, get_lt, set_lt, get_len, get_len_add, set_len, set_len_add, List.append_assoc, List.cons_append, List.nil_append, -getElem?_pos, b12]
  have main : ∀ (B : EC), hasL B 0 = true → ∀ (I : Nat → Nat → Fr → LH → Prop), (∀ m lab fr h', (lab = 0 ∧ Gr h h' ∧ ∃ lk acc out, m = lk.length + 1 ∧ unpackN l.length (lk.length + 1) lk acc = R ∧ Rr h' h.length lk false ∧ isB lk ∧ acc.length + lk.length ≤ l.length ∧ Ow (h.length + 1) h' 23 encC out acc ∧
      fr = [(0, some (.s v)), (5, some (.s (.ptr h.length 0))), (6, some (.s out))]) → I m lab fr h') →
      ∀ (lk : List Int) (acc : List Cm) (out : SV) (h' : LH), Gr h h' → unpackN l.length (lk.length + 1) lk acc = R → Rr h' h.length lk false → isB lk → acc.length + lk.length ≤ l.length → Ow (h.length + 1) h' 23 encC out acc →
      WPk C l12_0_3 [(0, some (.s v)), (5, some (.s (.ptr h.length 0))), (6, some (.s out))] h' (KS B (fun lab fr h' => ∃ m, m < lk.length + 1 ∧ I m lab fr h') (KR [.tmp 2, .tmp 3, .tmp 4] Ψ)) := by
    intro B hHL I hI lk acc out h' gr hun rr bb ha ow
    obtain ⟨v1, s1, s2, s3⟩ := rr
    have rl := r.len
    have rk := s2.len
    have wl : IntKind.i64.wrap ((l.length : Int) - lk.length) = ((l.length - lk.length : Nat) : Int) := by rw [wrap_small (by omega) (by omega)]; omega
    by_cases h0 : lk = []
    · subst h0
      simp only [unpackN, if_true] at hun
      subst hun
      have wl' : IntKind.i64.wrap (l.length : Int) = l.length := wrap_small (by omega) (by omega)
      simp [wpk_skip, wpk_seq, k_cond, wpk_block, wpk_exit, wpk_ret, wpk_goto, wpk_label, wpk_loop, k_ops, k_draw0, t_nil, t_cons, KT_eq, KD_eq, wpo_nil, k_cons, k_step, mt_some, mtk_some, KO_eq, KP_eq, K_normal, K_ret, K_exit, KB_normal, KB_ret, KB_exit, KL_normal, KL_ret, KL_exit, K_goto, KB_goto, KL_goto, KS_goto, KS_ret, KS_normal, KS_exit, k_ret, k_normal, stepE, isCall, calleeE, opE, wantE, odE, odS, odL, odSL, fget, fput, initE, keepF, List.map_cons, List.map_nil, binE, intOp, strOp, shOp, unE, eqpE, eqnE, neqB, ressE, resE, packL, packE, flat1, fcells, fillE, setL, cellsOf_bind, cellsO_own, cellsO_ro, lenE_sl, lenE_nils, lenE_sl0, bound, rep, minE, maxE, Option.getD_some, Option.getD_none, isKey, nlS, List.getElem?_cons_zero, List.getElem?_cons_succ, get_lt, set_lt, get_len, get_len_add, set_len, set_len_add, List.append_assoc, List.cons_append, List.nil_append, -getElem?_pos, l12_0_7, l12_0_6, l12_0_5, l12_0_4, l12_0_3, l12_0_2, l12_0_1, l12_0, s1, rl, rk, wl']
      exact hΨ _ _ ⟨gr, out, rfl, ow.base (Nat.le_succ _)⟩
    · have hz : ¬ lk.length = 0 := fun e => h0 (List.eq_nil_of_length_eq_zero e)
      have hz' : ((lk.length : Int) == 0) = false := by simpa using h0
      have hlt := command_lt h0
      simp only [unpackN, if_neg h0] at hun
      have hcmd := command_ok (s := (lk, false)) ⟨v1, s1, s2, s3⟩ bb (by simp only; omega)
      generalize commandF (lk, false) = Q at *
      obtain ⟨c, l2, bad⟩ := Q
      simp only at *
      have htk : (encC c).take 12 = encC c := rfl
      have hc12 : (encC c).length = 12 := rfl
      simp [wpk_skip, wpk_seq, k_cond, wpk_block, wpk_exit, wpk_ret, wpk_goto, wpk_label, wpk_loop, k_ops, k_draw0, t_nil, t_cons, KT_eq, KD_eq, wpo_nil, k_cons, k_step, mt_some, mtk_some, KO_eq, KP_eq, K_normal, K_ret, K_exit, KB_normal, KB_ret, KB_exit, KL_normal, KL_ret, KL_exit, K_goto, KB_goto, KL_goto, KS_goto, KS_ret, KS_normal, KS_exit, k_ret, k_normal, stepE, isCall, calleeE, opE, wantE, odE, odS, odL, odSL, fget, fput, initE, keepF, List.map_cons, List.map_nil, binE, intOp, strOp, shOp, unE, eqpE, eqnE, neqB, ressE, resE, packL, packE, flat1, fcells, fillE, setL, cellsOf_bind, cellsO_own, cellsO_ro, lenE_sl, lenE_nils, lenE_sl0, bound, rep, minE, maxE, Option.getD_some, Option.getD_none, isKey, nlS, List.getElem?_cons_zero, List.getElem?_cons_succ, get_lt, set_lt, get_len, get_len_add, set_len, set_len_add, List.append_assoc, List.cons_append, List.nil_append, -getElem?_pos, l12_0_7, l12_0_6, l12_0_5, l12_0_4, l12_0_3, l12_0_2, l12_0_1, l12_0, s1, rl, rk, wl, h0, hz, hz']
      refine WPc.go hcmd ?_
      rintro _ h1 ⟨g1, rfl, rr1, bb1, ll1⟩
      have gr1 : Gr h h1 := GrBut.gr g1 gr (Nat.le_refl _)
      have e1 : (h1 ++ [LO.own 23 (encC c)])[h1.length]? = some (.own 23 (encC c)) := get_len
      cases hok : (!bad && okC c) with
      | false =>
        rw [hok] at hun
        simp only [Bool.false_eq_true, if_false] at hun
        subst hun
        simp [wpk_skip, wpk_seq, k_cond, wpk_block, wpk_exit, wpk_ret, wpk_goto, wpk_label, wpk_loop, k_ops, k_draw0, t_nil, t_cons, KT_eq, KD_eq, wpo_nil, k_cons, k_step, mt_some, mtk_some, KO_eq, KP_eq, K_normal, K_ret, K_exit, KB_normal, KB_ret, KB_exit, KL_normal, KL_ret, KL_exit, K_goto, KB_goto, KL_goto, KS_goto, KS_ret, KS_normal, KS_exit, k_ret, k_normal, stepE, isCall, calleeE, opE, wantE, odE, odS, odL, odSL, fget, fput, initE, keepF, List.map_cons, List.map_nil, binE, intOp, strOp, shOp, unE, eqpE, eqnE, neqB, ressE, resE, packL, packE, flat1, fcells, fillE, setL, cellsOf_bind, cellsO_own, cellsO_ro, lenE_sl, lenE_nils, lenE_sl0, bound, rep, minE, maxE, Option.getD_some, Option.getD_none, isKey, nlS, List.getElem?_cons_zero, List.getElem?_cons_succ, get_lt, set_lt, get_len, get_len_add, set_len, set_len_add, List.append_assoc, List.cons_append, List.nil_append, -getElem?_pos, hok, store12, hc12]
        exact hΨ _ _ ⟨gr1.app _, rfl⟩
      | true =>
        rw [hok] at hun
        simp only [if_true] at hun
        rw [Bool.and_eq_true] at hok
        have hbad : bad = false := by simpa using hok.1
        subst hbad
        have hok2 := hok.2
        have ow1 : Ow (h.length + 1) h1 23 encC out acc := by
          rcases ow with ow | ⟨j, j1, j2, j3⟩
          · exact .inl ow
          · exact .inr ⟨j, j1, j2, g1.get (by omega) j3⟩
        have hA := ow1.app1 (y := 120) encC_len (by omega) [.own 23 (encC c), .own 23 (encC c)] (encC c)
        obtain ⟨f1, f2⟩ := Ow.step (hb := h) gr1 (ow1.base (Nat.le_succ _)) c [.own 23 (encC c), .own 23 (encC c)] (n := acc.length + 1) (cs := encC c) (m := 2) rfl rfl rfl
        have f3 := Ow.next (b := h.length + 1) (t := 23) (enc := encC) (h := h1 ++ [.own 23 (encC c), .own 23 (encC c)]) (v := out) (l := acc) (new := [c]) (n := acc.length + 1) (by have := gr1.le; have := g1.le; have := lt_of_some s1; simp; omega) rfl
        simp only [List.flatMap_singleton, List.length_append, List.length_cons, List.length_nil] at f3
        simp [wpk_skip, wpk_seq, k_cond, wpk_block, wpk_exit, wpk_ret, wpk_goto, wpk_label, wpk_loop, k_ops, k_draw0, t_nil, t_cons, KT_eq, KD_eq, wpo_nil, k_cons, k_step, mt_some, mtk_some, KO_eq, KP_eq, K_normal, K_ret, K_exit, KB_normal, KB_ret, KB_exit, KL_normal, KL_ret, KL_exit, K_goto, KB_goto, KL_goto, KS_goto, KS_ret, KS_normal, KS_exit, k_ret, k_normal, stepE, isCall, calleeE, opE, wantE, odE, odS, odL, odSL, fget, fput, initE, keepF, List.map_cons, List.map_nil, binE, intOp, strOp, shOp, unE, eqpE, eqnE, neqB, ressE, resE, packL, packE, flat1, fcells, fillE, setL, cellsOf_bind, cellsO_own, cellsO_ro, lenE_sl, lenE_nils, lenE_sl0, bound, rep, minE, maxE, Option.getD_some, Option.getD_none, isKey, nlS, List.getElem?_cons_zero, List.getElem?_cons_succ, get_lt, set_lt, get_len, get_len_add, set_len, set_len_add, List.append_assoc, List.cons_append, List.nil_append, -getElem?_pos, hok2, store12, hc12, htk, elems, hA, hHL]
        exact ⟨l2.length + 1, by omega, hI _ _ _ _ ⟨rfl, f1, l2, acc ++ [c], _, rfl, by rw [← hun]; exact (unpackN_more (by omega) (by omega)).symm, Rr.kill rr1 ow1 _ _, bb1, by simp; omega, f3, rfl⟩⟩
  refine wpk_scope2 (fun m lab fr h' => lab = 0 ∧ Gr h h' ∧ ∃ lk acc out, m = lk.length + 1 ∧ unpackN l.length (lk.length + 1) lk acc = R ∧ Rr h' h.length lk false ∧ isB lk ∧ acc.length + lk.length ≤ l.length ∧ Ow (h.length + 1) h' 23 encC out acc ∧
      fr = [(0, some (.s v)), (5, some (.s (.ptr h.length 0))), (6, some (.s out))]) (l.length + 1) (fun I hI => ?_) (fun I hI n lab fr h' hi => ?_)
  · have := main l12_0 rfl I hI l [] .nils (h ++ [.own 56 [v, .bool false]]) (Gr.self _ _) hR.symm ⟨v, get_len, r.gr (Gr.self _ _), hv⟩ hb (by simp) (Ow.nil _ _)
    generalize KS l12_0 (fun lab fr h' => ∃ m, m < l.length + 1 ∧ I m lab fr h') (KR [.tmp 2, .tmp 3, .tmp 4] Ψ) = Kont at this ⊢
    simp [wpk_skip, wpk_seq, k_cond, wpk_block, wpk_exit, wpk_ret, wpk_goto, wpk_label, wpk_loop, k_ops, k_draw0, t_nil, t_cons, KT_eq, KD_eq, wpo_nil, k_cons, k_step, mt_some, mtk_some, KO_eq, KP_eq, K_normal, K_ret, K_exit, KB_normal, KB_ret, KB_exit, KL_normal, KL_ret, KL_exit, K_goto, KB_goto, KL_goto, KS_goto, KS_ret, KS_normal, KS_exit, k_ret, k_normal, stepE, isCall, calleeE, opE, wantE, odE, odS, odL, odSL, fget, fput, initE, keepF, List.map_cons, List.map_nil, binE, intOp, strOp, shOp, unE, eqpE, eqnE, neqB, ressE, resE, packL, packE, flat1, fcells, fillE, setL, cellsOf_bind, cellsO_own, cellsO_ro, lenE_sl, lenE_nils, lenE_sl0, bound, rep, minE, maxE, Option.getD_some, Option.getD_none, isKey, nlS, List.getElem?_cons_zero, List.getElem?_cons_succ, get_lt, set_lt, get_len, get_len_add, set_len, set_len_add, List.append_assoc, List.cons_append, List.nil_append, -getElem?_pos, l12_0, l12_0_1, l12_0_2]
    exact this
  · obtain ⟨rfl, gr, lk, acc, out, rfl, h1, h2, h3, h4, h5, rfl⟩ := hi
    have := main l12_0 rfl I hI lk acc out h' gr h1 h2 h3 h4 h5
    exact (wpa_past (b := l12_0_1) rfl).2 ((wpa_past (b := l12_0_2) rfl).2 ((wpa_here (b := l12_0_3) rfl).2 (wpa_label.2 this)))
end Go.Proofs.YtbgfcgmbihhlbaaDoor.Ev.CW
