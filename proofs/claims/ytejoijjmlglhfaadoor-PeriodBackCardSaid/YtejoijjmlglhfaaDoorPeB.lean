/- Periods' texts: read back. -/
import Derived.Test.YtejoijjmlglhfaaDoorPeA
set_option linter.unusedSimpArgs false
set_option linter.unusedVariables false
namespace Go.Proofs.YtejoijjmlglhfaaDoor.Ev.CP
open Go

theorem dg_inj {a b : Nat} (ha : a < 100) (hb : b < 100) (h : dg a = dg b) : a = b := by
  unfold dg at h
  have := congrArg UInt8.toNat h
  simp only [UInt8.toNat_ofNat'] at this
  omega
theorem dg_lt {a b : Nat} (ha : a < 100) (hb : b < 100) : (dg a < dg b) ↔ a < b := by
  unfold dg
  rw [UInt8.lt_iff_toNat_lt]
  simp only [UInt8.toNat_ofNat']
  omega
theorem txtL_inj {p q : Nat} (hp : p < 400) (hq : q < 400) (h : txtL p = txtL q) : p = q := by
  unfold txtL at h
  simp only [List.cons.injEq, true_and, and_true] at h
  obtain ⟨h1, h2, h3⟩ := h
  have := dg_inj (by omega) (by omega) h1
  have := dg_inj (by omega) (by omega) h2
  have := dg_inj (by omega) (by omega) h3
  omega
theorem txt_list (p : Nat) : (txt p).toList = txtL p := by
  unfold txt
  rw [ByteArray.toList_eq]
theorem txt_size (p : Nat) : (txt p).size = 6 := rfl
theorem txt_inj {p q : Nat} (hp : p < 400) (hq : q < 400) (h : txt p = txt q) : p = q := by
  apply txtL_inj hp hq
  rw [← txt_list, ← txt_list, h]
theorem txtF_nat {p : Nat} (h : p < 400) : txtF (p : Int) = txt p := by
  unfold txtF
  rw [if_pos (by omega), Int.toNat_natCast]
theorem beq_str (a b : ByteArray) : (a.toList == b.toList) = decide (a = b) := by
  by_cases h : a = b
  · subst h; simp
  · rw [decide_eq_false h]
    have : a.toList ≠ b.toList := fun e => h (by
      rw [ByteArray.toList_eq, ByteArray.toList_eq] at e
      apply ByteArray.ext
      exact Array.toList_inj.1 e)
    simpa using this

/-- The period of a text. -/
def IsPer (s : ByteArray) (p : Nat) : Prop := p < 400 ∧ txt p = s
open Classical in
noncomputable def parseF (s : ByteArray) : Int × Bool := if h : ∃ p, IsPer s p then ((h.choose : Int), true) else (0, false)
theorem parse_some {s : ByteArray} {p : Nat} (h : IsPer s p) : parseF s = ((p : Int), true) := by
  have hex : ∃ p, IsPer s p := ⟨p, h⟩
  unfold parseF
  rw [dif_pos hex]
  have := hex.choose_spec
  have : hex.choose = p := txt_inj this.1 h.1 (this.2.trans h.2.symm)
  rw [this]
theorem parse_none {s : ByteArray} (h : ∀ p, ¬ IsPer s p) : parseF s = (0, false) := by
  unfold parseF
  rw [dif_neg fun ⟨p, hp⟩ => h p hp]
theorem parse_ok (s : ByteArray) (h : LH) : callX C 13 [.s (.str s)] h = some (.tup [.s (.int .i64 (parseF s).1), .s (.bool (parseF s).2)], h) := by
  apply callX_wp
  refine WPc.post fun Ψ hΨ => ?_
  refine WPc.intro (e := e13) rfl (by simp [e13]) ?_
  show WPk C b13 _ _ (KR [.tmp 2, .tmp 3] _)
  simp [wpk_skip, wpk_seq, k_cond, wpk_block, wpk_exit, wpk_ret, wpk_loop, k_ops, k_draw0, t_nil, t_cons, KT_eq, KD_eq, wpo_nil, k_cons, k_step, mt_some, mtk_some, KO_eq, KP_eq, K_normal, K_ret, K_exit, KB_normal, KB_ret, KB_exit, KL_normal, KL_ret, KL_exit, k_ret, k_normal, stepE, isCall, calleeE, opE, wantE, odE, odS, odL, odSL, fget, fput, initE, keepF, List.map_cons, List.map_nil, binE, intOp, strOp, shOp, unE, eqpE, eqnE, neqB, ressE, resE, packL, packE, flat1, fcells, fillE, setL, cellsOf_bind, cellsO_own, cellsO_ro, lenE_sl, lenE_nils, lenE_sl0, bound, rep, minE, maxE, List.getElem?_cons_zero, List.getElem?_cons_succ, get_lt, set_lt, get_len, get_len_add, set_len, set_len_add, List.append_assoc, List.cons_append, List.nil_append, -getElem?_pos, b13, s13_1]
  refine WPl.post (fun x fr' h' => h' = h ∧ ((x = .exit 0 ∧ fr' = [] ∧ parseF s = (0, false)) ∨ (x = .ret ∧ fr' = [(2, some (.s (.int .i64 (parseF s).1))), (3, some (.s (.bool (parseF s).2)))]))) (fun Φ hΦ => ?_) ?_
  · refine WPl.inv2 (fun m fr h' => h' = h ∧ ∃ k : Nat, k ≤ 400 ∧ m = 400 - k ∧ (∀ p, p < k → txt p ≠ s) ∧ fr = [(0, some (.s (.str s))), (5, some (.s (.int .i64 k)))]) ?_ _ _ _ ⟨rfl, 0, Nat.zero_le _, rfl, fun p hp => by omega, rfl⟩
    rintro I hI m fr h' ⟨rfl, k, hk, rfl, hno, rfl⟩
    refine ⟨by simp [keepF, fget], ?_⟩
    have w3 : IntKind.i64.wrap ((k : Int) + 1) = ((k + 1 : Nat) : Int) := wrap_small (by omega) (by omega)
    by_cases hlt : k < 400
    · have hlt' : (k : Int) < 400 := by omega
      have q := fun h => text_ok (k : Int) h
      rw [txtF_nat hlt] at q
      have bq := beq_str (txt k) s
      by_cases e : txt k = s
      · rw [decide_eq_true e] at bq
        have hp := parse_some (s := s) (p := k) ⟨hlt, e⟩
        rw [hp] at hΦ
        simp [wpk_skip, wpk_seq, k_cond, wpk_block, wpk_exit, wpk_ret, wpk_loop, k_ops, k_draw0, t_nil, t_cons, KT_eq, KD_eq, wpo_nil, k_cons, k_step, mt_some, mtk_some, KO_eq, KP_eq, K_normal, K_ret, K_exit, KB_normal, KB_ret, KB_exit, KL_normal, KL_ret, KL_exit, k_ret, k_normal, stepE, isCall, calleeE, opE, wantE, odE, odS, odL, odSL, fget, fput, initE, keepF, List.map_cons, List.map_nil, binE, intOp, strOp, shOp, unE, eqpE, eqnE, neqB, ressE, resE, packL, packE, flat1, fcells, fillE, setL, cellsOf_bind, cellsO_own, cellsO_ro, lenE_sl, lenE_nils, lenE_sl0, bound, rep, minE, maxE, List.getElem?_cons_zero, List.getElem?_cons_succ, get_lt, set_lt, get_len, get_len_add, set_len, set_len_add, List.append_assoc, List.cons_append, List.nil_append, -getElem?_pos, l13_0_2, l13_0_1, l13_0, hlt, hlt', q, bq, w3]
        exact hΦ _ _ _ ⟨rfl, .inr ⟨rfl, rfl⟩⟩
      · rw [decide_eq_false e] at bq
        simp [wpk_skip, wpk_seq, k_cond, wpk_block, wpk_exit, wpk_ret, wpk_loop, k_ops, k_draw0, t_nil, t_cons, KT_eq, KD_eq, wpo_nil, k_cons, k_step, mt_some, mtk_some, KO_eq, KP_eq, K_normal, K_ret, K_exit, KB_normal, KB_ret, KB_exit, KL_normal, KL_ret, KL_exit, k_ret, k_normal, stepE, isCall, calleeE, opE, wantE, odE, odS, odL, odSL, fget, fput, initE, keepF, List.map_cons, List.map_nil, binE, intOp, strOp, shOp, unE, eqpE, eqnE, neqB, ressE, resE, packL, packE, flat1, fcells, fillE, setL, cellsOf_bind, cellsO_own, cellsO_ro, lenE_sl, lenE_nils, lenE_sl0, bound, rep, minE, maxE, List.getElem?_cons_zero, List.getElem?_cons_succ, get_lt, set_lt, get_len, get_len_add, set_len, set_len_add, List.append_assoc, List.cons_append, List.nil_append, -getElem?_pos, l13_0_2, l13_0_1, l13_0, hlt, hlt', q, bq, w3]
        refine ⟨_, by omega, hI _ _ _ ⟨rfl, k + 1, by omega, rfl, fun p hp => ?_, rfl⟩⟩
        by_cases e2 : p = k
        · rw [e2]; exact e
        · exact hno p (by omega)
    · have hlt' : ¬ (k : Int) < 400 := by omega
      simp [wpk_skip, wpk_seq, k_cond, wpk_block, wpk_exit, wpk_ret, wpk_loop, k_ops, k_draw0, t_nil, t_cons, KT_eq, KD_eq, wpo_nil, k_cons, k_step, mt_some, mtk_some, KO_eq, KP_eq, K_normal, K_ret, K_exit, KB_normal, KB_ret, KB_exit, KL_normal, KL_ret, KL_exit, k_ret, k_normal, stepE, isCall, calleeE, opE, wantE, odE, odS, odL, odSL, fget, fput, initE, keepF, List.map_cons, List.map_nil, binE, intOp, strOp, shOp, unE, eqpE, eqnE, neqB, ressE, resE, packL, packE, flat1, fcells, fillE, setL, cellsOf_bind, cellsO_own, cellsO_ro, lenE_sl, lenE_nils, lenE_sl0, bound, rep, minE, maxE, List.getElem?_cons_zero, List.getElem?_cons_succ, get_lt, set_lt, get_len, get_len_add, set_len, set_len_add, List.append_assoc, List.cons_append, List.nil_append, -getElem?_pos, l13_0_2, l13_0_1, l13_0, hlt, hlt']
      refine hΦ _ _ _ ⟨rfl, .inl ⟨rfl, rfl, parse_none fun p hp => hno p (by have := hp.1; omega) hp.2⟩⟩
  · rintro x fr' h' ⟨rfl, ⟨rfl, rfl, e⟩ | ⟨rfl, rfl⟩⟩
    · rw [e] at hΨ
      simp [wpk_skip, wpk_seq, k_cond, wpk_block, wpk_exit, wpk_ret, wpk_loop, k_ops, k_draw0, t_nil, t_cons, KT_eq, KD_eq, wpo_nil, k_cons, k_step, mt_some, mtk_some, KO_eq, KP_eq, K_normal, K_ret, K_exit, KB_normal, KB_ret, KB_exit, KL_normal, KL_ret, KL_exit, k_ret, k_normal, stepE, isCall, calleeE, opE, wantE, odE, odS, odL, odSL, fget, fput, initE, keepF, List.map_cons, List.map_nil, binE, intOp, strOp, shOp, unE, eqpE, eqnE, neqB, ressE, resE, packL, packE, flat1, fcells, fillE, setL, cellsOf_bind, cellsO_own, cellsO_ro, lenE_sl, lenE_nils, lenE_sl0, bound, rep, minE, maxE, List.getElem?_cons_zero, List.getElem?_cons_succ, get_lt, set_lt, get_len, get_len_add, set_len, set_len_add, List.append_assoc, List.cons_append, List.nil_append, -getElem?_pos, s13_2]
      exact hΨ _ _ ⟨rfl, rfl⟩
    · simp [wpk_skip, wpk_seq, k_cond, wpk_block, wpk_exit, wpk_ret, wpk_loop, k_ops, k_draw0, t_nil, t_cons, KT_eq, KD_eq, wpo_nil, k_cons, k_step, mt_some, mtk_some, KO_eq, KP_eq, K_normal, K_ret, K_exit, KB_normal, KB_ret, KB_exit, KL_normal, KL_ret, KL_exit, k_ret, k_normal, stepE, isCall, calleeE, opE, wantE, odE, odS, odL, odSL, fget, fput, initE, keepF, List.map_cons, List.map_nil, binE, intOp, strOp, shOp, unE, eqpE, eqnE, neqB, ressE, resE, packL, packE, flat1, fcells, fillE, setL, cellsOf_bind, cellsO_own, cellsO_ro, lenE_sl, lenE_nils, lenE_sl0, bound, rep, minE, maxE, List.getElem?_cons_zero, List.getElem?_cons_succ, get_lt, set_lt, get_len, get_len_add, set_len, set_len_add, List.append_assoc, List.cons_append, List.nil_append, -getElem?_pos, ]
      exact hΨ _ _ ⟨rfl, rfl⟩

theorem wakes_ok (h : LH) : callX C 11 [] h = some (.s (.bool true), h) := by
  apply callX_wp
  refine WPc.intro (e := e11) rfl (by simp [e11]) ?_
  show WPk C b11 _ _ (KR [.tmp 0] _)
  have q1 := fun h => text_ok 14 h
  have q2 := fun h => text_ok (-1) h
  have e1 : txtF 14 = ⟨#[50, 48, 48, 51, 113, 51]⟩ := rfl
  have e2 : txtF (-1) = ⟨#[]⟩ := rfl
  rw [e1] at q1
  rw [e2] at q2
  simp [wpk_skip, wpk_seq, k_cond, wpk_block, wpk_exit, wpk_ret, wpk_loop, k_ops, k_draw0, t_nil, t_cons, KT_eq, KD_eq, wpo_nil, k_cons, k_step, mt_some, mtk_some, KO_eq, KP_eq, K_normal, K_ret, K_exit, KB_normal, KB_ret, KB_exit, KL_normal, KL_ret, KL_exit, k_ret, k_normal, stepE, isCall, calleeE, opE, wantE, odE, odS, odL, odSL, fget, fput, initE, keepF, List.map_cons, List.map_nil, binE, intOp, strOp, shOp, unE, eqpE, eqnE, neqB, ressE, resE, packL, packE, flat1, fcells, fillE, setL, cellsOf_bind, cellsO_own, cellsO_ro, lenE_sl, lenE_nils, lenE_sl0, bound, rep, minE, maxE, List.getElem?_cons_zero, List.getElem?_cons_succ, get_lt, set_lt, get_len, get_len_add, set_len, set_len_add, List.append_assoc, List.cons_append, List.nil_append, -getElem?_pos, b11, s11_1, q1, q2]

/-- A digit of the row of them. -/
theorem digit_sub {k : Nat} (h : k < 10) : ((⟨#[48, 49, 50, 51, 52, 53, 54, 55, 56, 57]⟩ : ByteArray).extract k 10).extract 0 1 = ⟨#[dg k]⟩ := by
  have : k = 0 ∨ k = 1 ∨ k = 2 ∨ k = 3 ∨ k = 4 ∨ k = 5 ∨ k = 6 ∨ k = 7 ∨ k = 8 ∨ k = 9 := by omega
  rcases this with rfl | rfl | rfl | rfl | rfl | rfl | rfl | rfl | rfl | rfl <;> rfl
theorem rtext_ok (p : Int) (h : LH) : callX C 16 [.s (.int .i64 p)] h = some (.s (.str (txtF p)), h) := by
  apply callX_wp
  refine WPc.intro (e := e16) rfl (by simp [e16]) ?_
  show WPk C b16 _ _ (KR [.tmp 2] _)
  have q := fun h => rperiod_ok p h
  unfold txtF
  by_cases c : 0 ≤ p ∧ p ≤ 399
  · rw [decide_eq_true c] at q
    rw [if_pos c]
    obtain ⟨n, hn⟩ : ∃ n : Nat, p = n := ⟨p.toNat, by omega⟩
    subst hn
    have e1 : (n : Int).tdiv 40 = ((n / 40 : Nat) : Int) := by rw [Int.tdiv_eq_ediv_of_nonneg (by omega)]; omega
    have e2 : (n : Int).tdiv 4 = ((n / 4 : Nat) : Int) := by rw [Int.tdiv_eq_ediv_of_nonneg (by omega)]; omega
    have e3 : ((n / 4 : Nat) : Int).tmod 10 = ((n / 4 % 10 : Nat) : Int) := by rw [Int.tmod_eq_emod_of_nonneg (by omega)]; omega
    have e4 : (n : Int).tmod 4 = ((n % 4 : Nat) : Int) := by rw [Int.tmod_eq_emod_of_nonneg (by omega)]; omega
    have w1 : IntKind.i64.wrap ((n / 40 : Nat) : Int) = ((n / 40 : Nat) : Int) := wrap_small (by omega) (by omega)
    have w2 : IntKind.i64.wrap ((n / 4 : Nat) : Int) = ((n / 4 : Nat) : Int) := wrap_small (by omega) (by omega)
    have w3 : IntKind.i64.wrap (((n % 4 : Nat) : Int) + 1) = ((1 + n % 4 : Nat) : Int) := by rw [wrap_small (by omega) (by omega)]; omega
    have a1 := digit_sub (k := n / 40) (by omega)
    have a2 := digit_sub (k := n / 4 % 10) (by omega)
    have a3 := digit_sub (k := 1 + n % 4) (by omega)
    have b1 : n / 40 ≤ 10 := by omega
    have b2 : n / 4 % 10 ≤ 10 := by omega
    have b3 : 1 + n % 4 ≤ 10 := by omega
    have c1 : 1 ≤ 10 - n / 40 := by omega
    have c2 : 1 ≤ 10 - n / 4 % 10 := by omega
    have c3 : 1 ≤ 10 - (1 + n % 4) := by omega
    have sz : (⟨#[48, 49, 50, 51, 52, 53, 54, 55, 56, 57]⟩ : ByteArray).size = 10 := rfl
    have fin : txt n = ⟨#[50, 48]⟩ ++ ⟨#[dg (n / 40)]⟩ ++ ⟨#[dg (n / 4 % 10)]⟩ ++ ⟨#[113]⟩ ++ ⟨#[dg (1 + n % 4)]⟩ := by
      apply ByteArray.ext
      simp only [ByteArray.data_append]
      simp [txt, txtL]
    rw [Int.toNat_natCast, fin]
    have z1 : (⟨#[50, 48]⟩ : ByteArray).size = 2 := rfl
    have z2 : ∀ a : UInt8, (⟨#[a]⟩ : ByteArray).size = 1 := fun _ => rfl
    have p1 : (0 : Int) ≤ ((n / 40 : Nat) : Int) := by omega
    have p2 : (0 : Int) ≤ ((n / 4 % 10 : Nat) : Int) := by omega
    have p3 : (0 : Int) ≤ ((1 + n % 4 : Nat) : Int) := by omega
    generalize n / 40 = x at *
    generalize n / 4 % 10 = y at *
    generalize 1 + n % 4 = z at *
    generalize n / 4 = u at *
    generalize n % 4 = v at *
    simp [wpk_skip, wpk_seq, k_cond, wpk_block, wpk_exit, wpk_ret, wpk_loop, k_ops, k_draw0, t_nil, t_cons, KT_eq, KD_eq, wpo_nil, k_cons, k_step, mt_some, mtk_some, KO_eq, KP_eq, K_normal, K_ret, K_exit, KB_normal, KB_ret, KB_exit, KL_normal, KL_ret, KL_exit, k_ret, k_normal, stepE, isCall, calleeE, opE, wantE, odE, odS, odL, odSL, fget, fput, initE, keepF, List.map_cons, List.map_nil, binE, intOp, strOp, shOp, unE, eqpE, eqnE, neqB, ressE, resE, packL, packE, flat1, fcells, fillE, setL, cellsOf_bind, cellsO_own, cellsO_ro, lenE_sl, lenE_nils, lenE_sl0, bound, rep, minE, maxE, List.getElem?_cons_zero, List.getElem?_cons_succ, get_lt, set_lt, get_len, get_len_add, set_len, set_len_add, List.append_assoc, List.cons_append, List.nil_append, -getElem?_pos, b16, s16_3, s16_2, s16_1, q, e1, e2, e3, e4, w1, w2, w3, sz, b1, b2, b3, c1, c2, c3, a1, a2, a3, p1, p2, p3, z1, z2, ByteArray.size_extract, ByteArray.size_append]
  · rw [decide_eq_false c] at q
    rw [if_neg c]
    simp [wpk_skip, wpk_seq, k_cond, wpk_block, wpk_exit, wpk_ret, wpk_loop, k_ops, k_draw0, t_nil, t_cons, KT_eq, KD_eq, wpo_nil, k_cons, k_step, mt_some, mtk_some, KO_eq, KP_eq, K_normal, K_ret, K_exit, KB_normal, KB_ret, KB_exit, KL_normal, KL_ret, KL_exit, k_ret, k_normal, stepE, isCall, calleeE, opE, wantE, odE, odS, odL, odSL, fget, fput, initE, keepF, List.map_cons, List.map_nil, binE, intOp, strOp, shOp, unE, eqpE, eqnE, neqB, ressE, resE, packL, packE, flat1, fcells, fillE, setL, cellsOf_bind, cellsO_own, cellsO_ro, lenE_sl, lenE_nils, lenE_sl0, bound, rep, minE, maxE, List.getElem?_cons_zero, List.getElem?_cons_succ, get_lt, set_lt, get_len, get_len_add, set_len, set_len_add, List.append_assoc, List.cons_append, List.nil_append, -getElem?_pos, b16, s16_3, s16_2, s16_1, q]
end Go.Proofs.YtejoijjmlglhfaaDoor.Ev.CP
