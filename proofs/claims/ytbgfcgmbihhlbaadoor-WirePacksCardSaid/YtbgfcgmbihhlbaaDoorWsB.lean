/- A command of small numbers, on the small machine. -/
import Derived.Test.YtbgfcgmbihhlbaaDoorWsA
set_option linter.unusedSimpArgs false
set_option linter.unusedVariables false
namespace Go.Proofs.YtbgfcgmbihhlbaaDoor.Ev.CW
open Go
open CK (Cm encC fieldsL fieldsB okC cmOf_enc)

/-- A command by small numbers. -/
structure Pc where
  d : Int
  a : Int
  b : Int
  n : Int
  w : ByteArray
def encP (x : Pc) : List SV := [.int .i64 x.d, .int .i64 x.a, .int .i64 x.b, .int .i64 x.n, .str x.w]
theorem encP_len (x : Pc) : (encP x).length = 5 := rfl
def P64 (x : Pc) : Prop := is64 x.d ∧ is64 x.a ∧ is64 x.b ∧ is64 x.n
/-- Texts of a length that may be. -/
def S63 (m : Cm) : Prop := m.a.size ≤ 9223372036854775807 ∧ m.b.size ≤ 9223372036854775807 ∧ m.j.size ≤ 9223372036854775807
def W64 (m : Cm) : Prop := is64 m.k ∧ is64 m.c ∧ is64 m.d ∧ is64 m.y ∧ is64 m.z ∧ is64 m.p ∧ is64 m.n ∧ is64 m.r ∧ is64 m.x ∧ S63 m
theorem idB_sz (n : Int) : (idB n).size ≤ 9223372036854775807 := by
  have h5 := within_64 n 5 (by omega)
  unfold idB
  generalize hk : (n % 5).toNat = k
  have hc : k = 0 ∨ k = 1 ∨ k = 2 ∨ k = 3 ∨ k = 4 := by omega
  rcases hc with rfl | rfl | rfl | rfl | rfl <;> decide
theorem nil_sz : (⟨#[]⟩ : ByteArray).size ≤ 9223372036854775807 := by decide
theorem two_sz (a b : UInt8) : (⟨#[a, b]⟩ : ByteArray).size ≤ 9223372036854775807 := by show 2 ≤ _; decide
theorem textF_sz (s : ByteArray) {n : Nat} (hn : n ≤ 100) : (textF s n).size ≤ 9223372036854775807 := by
  unfold textF
  rw [ByteArray.size_extract]
  omega

theorem period_ok (p : Int) (h : LH) : callX C 52 [.s (.int .i64 p)] h = some (.s (.bool (decide (0 ≤ p ∧ p ≤ 399))), h) := by
  apply callX_wp
  refine WPc.intro (e := e52) rfl (by simp [e52]) ?_
  show WPk C b52 _ _ (KR [.tmp 2] _)
  by_cases h1 : p ≥ 0
  · by_cases h2 : p ≤ 399
    · have h1' : 0 ≤ p := h1
      simp [wpk_skip, wpk_seq, k_cond, wpk_block, wpk_exit, wpk_ret, wpk_goto, wpk_label, wpk_loop, k_ops, k_draw0, t_nil, t_cons, KT_eq, KD_eq, wpo_nil, k_cons, k_step, mt_some, mtk_some, KO_eq, KP_eq, K_normal, K_ret, K_exit, KB_normal, KB_ret, KB_exit, KL_normal, KL_ret, KL_exit, K_goto, KB_goto, KL_goto, KS_goto, KS_ret, KS_normal, KS_exit, k_ret, k_normal, stepE, isCall, calleeE, opE, wantE, odE, odS, odL, odSL, fget, fput, initE, keepF, List.map_cons, List.map_nil, binE, intOp, strOp, shOp, unE, eqpE, eqnE, neqB, ressE, resE, packL, packE, flat1, fcells, fillE, setL, cellsOf_bind, cellsO_own, cellsO_ro, lenE_sl, lenE_nils, lenE_sl0, bound, rep, minE, maxE, Option.getD_some, Option.getD_none, isKey, nlS, List.getElem?_cons_zero, List.getElem?_cons_succ, get_lt, set_lt, get_len, get_len_add, set_len, set_len_add, List.append_assoc, List.cons_append, List.nil_append, -getElem?_pos, b52, s52_1, h1, h1', h2]
    · have h1' : 0 ≤ p := h1
      simp [wpk_skip, wpk_seq, k_cond, wpk_block, wpk_exit, wpk_ret, wpk_goto, wpk_label, wpk_loop, k_ops, k_draw0, t_nil, t_cons, KT_eq, KD_eq, wpo_nil, k_cons, k_step, mt_some, mtk_some, KO_eq, KP_eq, K_normal, K_ret, K_exit, KB_normal, KB_ret, KB_exit, KL_normal, KL_ret, KL_exit, K_goto, KB_goto, KL_goto, KS_goto, KS_ret, KS_normal, KS_exit, k_ret, k_normal, stepE, isCall, calleeE, opE, wantE, odE, odS, odL, odSL, fget, fput, initE, keepF, List.map_cons, List.map_nil, binE, intOp, strOp, shOp, unE, eqpE, eqnE, neqB, ressE, resE, packL, packE, flat1, fcells, fillE, setL, cellsOf_bind, cellsO_own, cellsO_ro, lenE_sl, lenE_nils, lenE_sl0, bound, rep, minE, maxE, Option.getD_some, Option.getD_none, isKey, nlS, List.getElem?_cons_zero, List.getElem?_cons_succ, get_lt, set_lt, get_len, get_len_add, set_len, set_len_add, List.append_assoc, List.cons_append, List.nil_append, -getElem?_pos, b52, s52_1, h1, h1', h2]
  · have h1' : ¬ 0 ≤ p := h1
    simp [wpk_skip, wpk_seq, k_cond, wpk_block, wpk_exit, wpk_ret, wpk_goto, wpk_label, wpk_loop, k_ops, k_draw0, t_nil, t_cons, KT_eq, KD_eq, wpo_nil, k_cons, k_step, mt_some, mtk_some, KO_eq, KP_eq, K_normal, K_ret, K_exit, KB_normal, KB_ret, KB_exit, KL_normal, KL_ret, KL_exit, K_goto, KB_goto, KL_goto, KS_goto, KS_ret, KS_normal, KS_exit, k_ret, k_normal, stepE, isCall, calleeE, opE, wantE, odE, odS, odL, odSL, fget, fput, initE, keepF, List.map_cons, List.map_nil, binE, intOp, strOp, shOp, unE, eqpE, eqnE, neqB, ressE, resE, packL, packE, flat1, fcells, fillE, setL, cellsOf_bind, cellsO_own, cellsO_ro, lenE_sl, lenE_nils, lenE_sl0, bound, rep, minE, maxE, Option.getD_some, Option.getD_none, isKey, nlS, List.getElem?_cons_zero, List.getElem?_cons_succ, get_lt, set_lt, get_len, get_len_add, set_len, set_len_add, List.append_assoc, List.cons_append, List.nil_append, -getElem?_pos, b52, s52_1, h1, h1']
def openF (n : Int) : Int := if 0 ≤ n ∧ n ≤ 399 then n else 0
theorem openF_bd (n : Int) : 0 ≤ openF n ∧ openF n ≤ 399 := by unfold openF; split <;> omega
theorem open_ok {h : LH} {s : Nat} {n : Int} {a b : SV} (hs : h[s]? = some (.own 119 [a, .int .i64 n, b])) : callX C 46 [.s (.ptr s 0)] h = some (.tup [.s (.int .i64 (openF n)), .s (.bool (decide (0 ≤ n ∧ n ≤ 399)))], h) := by
  apply callX_wp
  refine WPc.intro (e := e46) rfl (by simp [e46]) ?_
  show WPk C b46 _ _ (KR [.tmp 2, .tmp 3] _)
  unfold openF
  by_cases h1 : 0 ≤ n ∧ n ≤ 399
  · have h2 := h1.1
    have h3 := h1.2
    simp [wpk_skip, wpk_seq, k_cond, wpk_block, wpk_exit, wpk_ret, wpk_goto, wpk_label, wpk_loop, k_ops, k_draw0, t_nil, t_cons, KT_eq, KD_eq, wpo_nil, k_cons, k_step, mt_some, mtk_some, KO_eq, KP_eq, K_normal, K_ret, K_exit, KB_normal, KB_ret, KB_exit, KL_normal, KL_ret, KL_exit, K_goto, KB_goto, KL_goto, KS_goto, KS_ret, KS_normal, KS_exit, k_ret, k_normal, stepE, isCall, calleeE, opE, wantE, odE, odS, odL, odSL, fget, fput, initE, keepF, List.map_cons, List.map_nil, binE, intOp, strOp, shOp, unE, eqpE, eqnE, neqB, ressE, resE, packL, packE, flat1, fcells, fillE, setL, cellsOf_bind, cellsO_own, cellsO_ro, lenE_sl, lenE_nils, lenE_sl0, bound, rep, minE, maxE, Option.getD_some, Option.getD_none, isKey, nlS, List.getElem?_cons_zero, List.getElem?_cons_succ, get_lt, set_lt, get_len, get_len_add, set_len, set_len_add, List.append_assoc, List.cons_append, List.nil_append, -getElem?_pos, b46, s46_2, s46_1, hs, period_ok, h1, h2, h3]
  · have h1' : decide (0 ≤ n ∧ n ≤ 399) = false := by simpa using h1
    have h1'' : 0 ≤ n → ¬ n ≤ 399 := by omega
    rw [if_neg h1]
    simp [wpk_skip, wpk_seq, k_cond, wpk_block, wpk_exit, wpk_ret, wpk_goto, wpk_label, wpk_loop, k_ops, k_draw0, t_nil, t_cons, KT_eq, KD_eq, wpo_nil, k_cons, k_step, mt_some, mtk_some, KO_eq, KP_eq, K_normal, K_ret, K_exit, KB_normal, KB_ret, KB_exit, KL_normal, KL_ret, KL_exit, K_goto, KB_goto, KL_goto, KS_goto, KS_ret, KS_normal, KS_exit, k_ret, k_normal, stepE, isCall, calleeE, opE, wantE, odE, odS, odL, odSL, fget, fput, initE, keepF, List.map_cons, List.map_nil, binE, intOp, strOp, shOp, unE, eqpE, eqnE, neqB, ressE, resE, packL, packE, flat1, fcells, fillE, setL, cellsOf_bind, cellsO_own, cellsO_ro, lenE_sl, lenE_nils, lenE_sl0, bound, rep, minE, maxE, Option.getD_some, Option.getD_none, isKey, nlS, List.getElem?_cons_zero, List.getElem?_cons_succ, get_lt, set_lt, get_len, get_len_add, set_len, set_len_add, List.append_assoc, List.cons_append, List.nil_append, -getElem?_pos, b46, s46_2, s46_1, hs, period_ok, h1', h1'', -Bool.decide_and]

/-- What is asked of an entity that is looked for. -/
def AtOK (h : LH) (g : SV) : Prop := ∀ (e : ByteArray) (h' : LH), Gr h h' → ∃ v, callX C 45 [.s g, .s (.str e)] h' = some (.s v, h') ∧
  (v = .nilp ∨ ∃ j cs s n a b, v = .ptr j 0 ∧ h'[j]? = some (.own 110 cs) ∧ cs[3]? = some (.ptr s 0) ∧ h'[s]? = some (.own 119 [a, .int .i64 n, b]))

def jlL : List ByteArray := [⟨#[117, 107]⟩, ⟨#[100, 101]⟩, ⟨#[102, 114]⟩]

set_option maxRecDepth 20000 in
set_option maxHeartbeats 8000000 in
theorem do_tail (x : Pc) (hx : P64 x) (e : ByteArray) (he : e.size ≤ 9223372036854775807) (op : Int) (hop : 0 ≤ op ∧ op ≤ 399) (h0 h : LH) (hg : Gr h0 h) (i3 i4 : Nat) (h3 : h[i3]? = some (.own 63 (encP x))) (h4 : h[i4]? = some (.own 23 (encC (zeroC 0)))) (hi4 : h0.length ≤ i4) (xr : Fr) (Ψ : FV → LH → Prop)
    (hΨ : ∀ m h', Gr h0 h' → W64 m → Ψ (.agg (encC m)) h') : WPk C s27_5 ((3, some (.s (.ptr i3 0))) :: (4, some (.s (.ptr i4 0))) :: (5, some (.s (.str e))) :: (6, some (.s (.int .i64 op))) :: xr) h (KR [.cell 4 true 12] Ψ) := by
  obtain ⟨xd, xa, xb, xn⟩ := hx
  have hw := fun h => within_ok x.d 40 (by omega) h
  have hk := within_64 x.d 40 (by omega)
  generalize x.d % 40 = k at *
  have e0 : (encP x)[0]? = some (.int .i64 x.d) := rfl
  have e1 : (encP x)[1]? = some (.int .i64 x.a) := rfl
  have e2 : (encP x)[2]? = some (.int .i64 x.b) := rfl
  have e3 : (encP x)[3]? = some (.int .i64 x.n) := rfl
  have e4 : (encP x)[4]? = some (.str x.w) := rfl
  have el : (encP x).length = 5 := rfl
  have zl : (encC (zeroC 0)).length = 12 := rfl
  have hl4 := lt_of_some h4
  have s64 : ∀ {z : Int}, -10000000000000 ≤ z ∧ z ≤ 10000000000000 → is64 z := fun h => by unfold is64; omega
  have z64 : is64 0 := by unfold is64; decide
  have h4' : h[i4]? = some (.own 23 [.int .i64 0, .str ⟨#[]⟩, .str ⟨#[]⟩, .str ⟨#[]⟩, .int .i64 0, .int .i64 0, .int .i64 0, .int .i64 0, .int .i64 0, .int .i64 0, .int .i64 0, .int .i64 0]) := h4
  have h34 : i3 < h.length := lt_of_some h3
  have fin : ∀ (m : Cm) (r : LH), W64 m → Ψ (.agg (encC m)) (h.set i4 (.own 23 (encC m)) ++ r) := fun m r hm => hΨ m _ ((hg.set _ hi4).app r) hm
  have fin0 : ∀ (m : Cm), W64 m → Ψ (.agg (encC m)) (h.set i4 (.own 23 (encC m))) := fun m hm => hΨ m _ (hg.set _ hi4) hm
  have am := amountC_ok xn
  have tx9 : ∀ h, callX C 49 [.s (.str x.w), .s (.int .i64 9)] h = some (.s (.str (textF x.w 9)), h) := fun h => textK_ok x.w 9 h
  have am64 := amount_64 xn
  have tb3 := tdiv_64 xb 3 (by omega)
  have tb5 := tdiv_64 xb 5 (by omega)
  have tn3 := tdiv_64 xn 3 (by omega)
  have tn5 := tdiv_64 xn 5 (by omega)
  have tn6 := tdiv_64 xn 6 (by omega)
  have tn60 := tdiv_64 xn 60 (by omega)
  have x5 : is64 (x.n.tdiv 5) := tn5 ▸ wrap_64 _
  have x6 : is64 (x.n.tdiv 6) := tn6 ▸ wrap_64 _
  have v0 := fun h => within_ok (x.b) 3 (by omega) h
  have u0 := within_64 (x.b) 3 (by omega)
  have v1 := fun h => within_ok (x.b.tdiv 3) 6 (by omega) h
  have u1 := within_64 (x.b.tdiv 3) 6 (by omega)
  have v2 := fun h => within_ok (x.b.tdiv 3) 4 (by omega) h
  have u2 := within_64 (x.b.tdiv 3) 4 (by omega)
  have v3 := fun h => within_ok (x.n) 3 (by omega) h
  have u3 := within_64 (x.n) 3 (by omega)
  have v4 := fun h => within_ok (x.n.tdiv 3) 4 (by omega) h
  have u4 := within_64 (x.n.tdiv 3) 4 (by omega)
  have v5 := fun h => within_ok (x.b) 5 (by omega) h
  have u5 := within_64 (x.b) 5 (by omega)
  have v6 := fun h => within_ok (x.n) 6 (by omega) h
  have u6 := within_64 (x.n) 6 (by omega)
  have v7 := fun h => within_ok (x.n.tdiv 60) 3 (by omega) h
  have u7 := within_64 (x.n.tdiv 60) 3 (by omega)
  have v8 := fun h => within_ok (x.b.tdiv 5) 3 (by omega) h
  have u8 := within_64 (x.b.tdiv 5) 3 (by omega)
  have v9 := fun h => within_ok (x.n) 5 (by omega) h
  have u9 := within_64 (x.n) 5 (by omega)
  have v10 := fun h => within_ok (x.n.tdiv 5) 4 (by omega) h
  have u10 := within_64 (x.n.tdiv 5) 4 (by omega)
  have v11 := fun h => within_ok (x.n) 2000000 (by omega) h
  have u11 := within_64 (x.n) 2000000 (by omega)
  have v12 := fun h => within_ok (x.b) 14 (by omega) h
  have u12 := within_64 (x.b) 14 (by omega)
  by_cases c : k < 6
  · simp [wpk_skip, wpk_seq, k_cond, wpk_block, wpk_exit, wpk_ret, wpk_goto, wpk_label, wpk_loop, k_ops, k_draw0, t_nil, t_cons, KT_eq, KD_eq, wpo_nil, k_cons, k_step, mt_some, mtk_some, KO_eq, KP_eq, K_normal, K_ret, K_exit, KB_normal, KB_ret, KB_exit, KL_normal, KL_ret, KL_exit, K_goto, KB_goto, KL_goto, KS_goto, KS_ret, KS_normal, KS_exit, k_ret, k_normal, stepE, isCall, calleeE, opE, wantE, odE, odS, odL, odSL, fget, fput, initE, keepF, List.map_cons, List.map_nil, binE, intOp, strOp, shOp, unE, eqpE, eqnE, neqB, ressE, resE, packL, packE, flat1, fcells, fillE, setL, cellsOf_bind, cellsO_own, cellsO_ro, lenE_sl, lenE_nils, lenE_sl0, bound, rep, minE, maxE, Option.getD_some, Option.getD_none, isKey, nlS, List.getElem?_cons_zero, List.getElem?_cons_succ, get_lt, set_lt, get_len, get_len_add, set_len, set_len_add, List.append_assoc, List.cons_append, List.nil_append, -getElem?_pos, b27, s27_6, s27_5, s27_4, s27_3, s27_2, s27_1, hw, h3, e0, e1, e2, e3, e4, h4', get_self hl4, h34, hl4, get_lt, set_lt, List.length_append, am, c]
    exact fin0 { zeroC 3 with a := e, n := amountF x.n } ⟨s64 (by simp only [zeroC]; omega), z64, z64, z64, z64, z64, am64, z64, z64, ⟨by first | exact he | exact idB_sz _ | exact textF_sz _ (by decide) | exact nil_sz, by first | exact nil_sz | exact idB_sz _, by first | exact nil_sz | exact two_sz _ _⟩⟩
  have n1 : ¬ k < 6 := c
  clear c
  by_cases c : k < 9
  · simp [wpk_skip, wpk_seq, k_cond, wpk_block, wpk_exit, wpk_ret, wpk_goto, wpk_label, wpk_loop, k_ops, k_draw0, t_nil, t_cons, KT_eq, KD_eq, wpo_nil, k_cons, k_step, mt_some, mtk_some, KO_eq, KP_eq, K_normal, K_ret, K_exit, KB_normal, KB_ret, KB_exit, KL_normal, KL_ret, KL_exit, K_goto, KB_goto, KL_goto, KS_goto, KS_ret, KS_normal, KS_exit, k_ret, k_normal, stepE, isCall, calleeE, opE, wantE, odE, odS, odL, odSL, fget, fput, initE, keepF, List.map_cons, List.map_nil, binE, intOp, strOp, shOp, unE, eqpE, eqnE, neqB, ressE, resE, packL, packE, flat1, fcells, fillE, setL, cellsOf_bind, cellsO_own, cellsO_ro, lenE_sl, lenE_nils, lenE_sl0, bound, rep, minE, maxE, Option.getD_some, Option.getD_none, isKey, nlS, List.getElem?_cons_zero, List.getElem?_cons_succ, get_lt, set_lt, get_len, get_len_add, set_len, set_len_add, List.append_assoc, List.cons_append, List.nil_append, -getElem?_pos, b27, s27_6, s27_5, s27_4, s27_3, s27_2, s27_1, hw, h3, e0, e1, e2, e3, e4, h4', get_self hl4, h34, hl4, get_lt, set_lt, List.length_append, am, n1, c]
    exact fin0 { zeroC 4 with a := e, n := amountF x.n } ⟨s64 (by simp only [zeroC]; omega), z64, z64, z64, z64, z64, am64, z64, z64, ⟨by first | exact he | exact idB_sz _ | exact textF_sz _ (by decide) | exact nil_sz, by first | exact nil_sz | exact idB_sz _, by first | exact nil_sz | exact two_sz _ _⟩⟩
  have n2 : ¬ k < 9 := c
  clear c
  by_cases c : k < 15
  · have q1 : IntKind.i64.wrap (1 + x.b % 3) = 1 + x.b % 3 := wrap_small (by omega) (by omega)
    simp [wpk_skip, wpk_seq, k_cond, wpk_block, wpk_exit, wpk_ret, wpk_goto, wpk_label, wpk_loop, k_ops, k_draw0, t_nil, t_cons, KT_eq, KD_eq, wpo_nil, k_cons, k_step, mt_some, mtk_some, KO_eq, KP_eq, K_normal, K_ret, K_exit, KB_normal, KB_ret, KB_exit, KL_normal, KL_ret, KL_exit, K_goto, KB_goto, KL_goto, KS_goto, KS_ret, KS_normal, KS_exit, k_ret, k_normal, stepE, isCall, calleeE, opE, wantE, odE, odS, odL, odSL, fget, fput, initE, keepF, List.map_cons, List.map_nil, binE, intOp, strOp, shOp, unE, eqpE, eqnE, neqB, ressE, resE, packL, packE, flat1, fcells, fillE, setL, cellsOf_bind, cellsO_own, cellsO_ro, lenE_sl, lenE_nils, lenE_sl0, bound, rep, minE, maxE, Option.getD_some, Option.getD_none, isKey, nlS, List.getElem?_cons_zero, List.getElem?_cons_succ, get_lt, set_lt, get_len, get_len_add, set_len, set_len_add, List.append_assoc, List.cons_append, List.nil_append, -getElem?_pos, b27, s27_6, s27_5, s27_4, s27_3, s27_2, s27_1, hw, h3, e0, e1, e2, e3, e4, h4', get_self hl4, h34, hl4, get_lt, set_lt, List.length_append, am, tb3, v0, v1, q1, n1, n2, c]
    refine k_draw ?_
    simp [wpk_skip, wpk_seq, k_cond, wpk_block, wpk_exit, wpk_ret, wpk_goto, wpk_label, wpk_loop, k_ops, k_draw0, t_nil, t_cons, KT_eq, KD_eq, wpo_nil, k_cons, k_step, mt_some, mtk_some, KO_eq, KP_eq, K_normal, K_ret, K_exit, KB_normal, KB_ret, KB_exit, KL_normal, KL_ret, KL_exit, K_goto, KB_goto, KL_goto, KS_goto, KS_ret, KS_normal, KS_exit, k_ret, k_normal, stepE, isCall, calleeE, opE, wantE, odE, odS, odL, odSL, fget, fput, initE, keepF, List.map_cons, List.map_nil, binE, intOp, strOp, shOp, unE, eqpE, eqnE, neqB, ressE, resE, packL, packE, flat1, fcells, fillE, setL, cellsOf_bind, cellsO_own, cellsO_ro, lenE_sl, lenE_nils, lenE_sl0, bound, rep, minE, maxE, Option.getD_some, Option.getD_none, isKey, nlS, List.getElem?_cons_zero, List.getElem?_cons_succ, get_lt, set_lt, get_len, get_len_add, set_len, set_len_add, List.append_assoc, List.cons_append, List.nil_append, slotsG, slotsE, odT, odsT, optT, partsT, okPairs, okPair, changesE, rdAft, rdO, frLt, nmV, nmVL, nmL, nmS, -getElem?_pos, b27, s27_6, s27_5, s27_4, s27_3, s27_2, s27_1, hw, h3, e0, e1, e2, e3, e4, h4', get_self hl4, h34, hl4, get_lt, set_lt, List.length_append, am, tb3, v0, v1, q1, n1, n2, c]
    exact fin0 { zeroC 5 with a := e, c := 1 + x.b % 3, y := x.b.tdiv 3 % 6, n := amountF x.n } ⟨s64 (by simp only [zeroC]; omega), s64 (by show _ ∧ _; simp only; omega), z64, s64 (by show _ ∧ _; simp only; omega), z64, z64, am64, z64, z64, ⟨by first | exact he | exact idB_sz _ | exact textF_sz _ (by decide) | exact nil_sz, by first | exact nil_sz | exact idB_sz _, by first | exact nil_sz | exact two_sz _ _⟩⟩
  have n3 : ¬ k < 15 := c
  clear c
  by_cases c : k < 17
  · have q1 : IntKind.i64.wrap (1 + x.b % 3) = 1 + x.b % 3 := wrap_small (by omega) (by omega)
    have q2 : IntKind.i64.wrap (1 + x.n % 3) = 1 + x.n % 3 := wrap_small (by omega) (by omega)
    simp [wpk_skip, wpk_seq, k_cond, wpk_block, wpk_exit, wpk_ret, wpk_goto, wpk_label, wpk_loop, k_ops, k_draw0, t_nil, t_cons, KT_eq, KD_eq, wpo_nil, k_cons, k_step, mt_some, mtk_some, KO_eq, KP_eq, K_normal, K_ret, K_exit, KB_normal, KB_ret, KB_exit, KL_normal, KL_ret, KL_exit, K_goto, KB_goto, KL_goto, KS_goto, KS_ret, KS_normal, KS_exit, k_ret, k_normal, stepE, isCall, calleeE, opE, wantE, odE, odS, odL, odSL, fget, fput, initE, keepF, List.map_cons, List.map_nil, binE, intOp, strOp, shOp, unE, eqpE, eqnE, neqB, ressE, resE, packL, packE, flat1, fcells, fillE, setL, cellsOf_bind, cellsO_own, cellsO_ro, lenE_sl, lenE_nils, lenE_sl0, bound, rep, minE, maxE, Option.getD_some, Option.getD_none, isKey, nlS, List.getElem?_cons_zero, List.getElem?_cons_succ, get_lt, set_lt, get_len, get_len_add, set_len, set_len_add, List.append_assoc, List.cons_append, List.nil_append, -getElem?_pos, b27, s27_6, s27_5, s27_4, s27_3, s27_2, s27_1, hw, h3, e0, e1, e2, e3, e4, h4', get_self hl4, h34, hl4, get_lt, set_lt, List.length_append, amountC_ok x5, tb3, tn3, tn5, v0, v2, v3, v4, q1, q2, n1, n2, n3, c]
    refine k_draw ?_
    simp [wpk_skip, wpk_seq, k_cond, wpk_block, wpk_exit, wpk_ret, wpk_goto, wpk_label, wpk_loop, k_ops, k_draw0, t_nil, t_cons, KT_eq, KD_eq, wpo_nil, k_cons, k_step, mt_some, mtk_some, KO_eq, KP_eq, K_normal, K_ret, K_exit, KB_normal, KB_ret, KB_exit, KL_normal, KL_ret, KL_exit, K_goto, KB_goto, KL_goto, KS_goto, KS_ret, KS_normal, KS_exit, k_ret, k_normal, stepE, isCall, calleeE, opE, wantE, odE, odS, odL, odSL, fget, fput, initE, keepF, List.map_cons, List.map_nil, binE, intOp, strOp, shOp, unE, eqpE, eqnE, neqB, ressE, resE, packL, packE, flat1, fcells, fillE, setL, cellsOf_bind, cellsO_own, cellsO_ro, lenE_sl, lenE_nils, lenE_sl0, bound, rep, minE, maxE, Option.getD_some, Option.getD_none, isKey, nlS, List.getElem?_cons_zero, List.getElem?_cons_succ, get_lt, set_lt, get_len, get_len_add, set_len, set_len_add, List.append_assoc, List.cons_append, List.nil_append, slotsG, slotsE, odT, odsT, optT, partsT, okPairs, okPair, changesE, rdAft, rdO, frLt, nmV, nmVL, nmL, nmS, -getElem?_pos, b27, s27_6, s27_5, s27_4, s27_3, s27_2, s27_1, hw, h3, e0, e1, e2, e3, e4, h4', get_self hl4, h34, hl4, get_lt, set_lt, List.length_append, amountC_ok x5, tb3, tn3, tn5, v0, v2, v3, v4, q1, q2, n1, n2, n3, c]
    exact fin0 { zeroC 6 with a := e, c := 1 + x.b % 3, y := x.b.tdiv 3 % 4, d := 1 + x.n % 3, z := x.n.tdiv 3 % 4, n := amountF (x.n.tdiv 5) } ⟨s64 (by simp only [zeroC]; omega), s64 (by show _ ∧ _; simp only; omega), s64 (by show _ ∧ _; simp only; omega), s64 (by show _ ∧ _; simp only; omega), s64 (by show _ ∧ _; simp only; omega), z64, amount_64 x5, z64, z64, ⟨by first | exact he | exact idB_sz _ | exact textF_sz _ (by decide) | exact nil_sz, by first | exact nil_sz | exact idB_sz _, by first | exact nil_sz | exact two_sz _ _⟩⟩
  have n4 : ¬ k < 17 := c
  clear c
  by_cases c : k < 19
  · simp [wpk_skip, wpk_seq, k_cond, wpk_block, wpk_exit, wpk_ret, wpk_goto, wpk_label, wpk_loop, k_ops, k_draw0, t_nil, t_cons, KT_eq, KD_eq, wpo_nil, k_cons, k_step, mt_some, mtk_some, KO_eq, KP_eq, K_normal, K_ret, K_exit, KB_normal, KB_ret, KB_exit, KL_normal, KL_ret, KL_exit, K_goto, KB_goto, KL_goto, KS_goto, KS_ret, KS_normal, KS_exit, k_ret, k_normal, stepE, isCall, calleeE, opE, wantE, odE, odS, odL, odSL, fget, fput, initE, keepF, List.map_cons, List.map_nil, binE, intOp, strOp, shOp, unE, eqpE, eqnE, neqB, ressE, resE, packL, packE, flat1, fcells, fillE, setL, cellsOf_bind, cellsO_own, cellsO_ro, lenE_sl, lenE_nils, lenE_sl0, bound, rep, minE, maxE, Option.getD_some, Option.getD_none, isKey, nlS, List.getElem?_cons_zero, List.getElem?_cons_succ, get_lt, set_lt, get_len, get_len_add, set_len, set_len_add, List.append_assoc, List.cons_append, List.nil_append, -getElem?_pos, b27, s27_6, s27_5, s27_4, s27_3, s27_2, s27_1, hw, h3, e0, e1, e2, e3, e4, h4', get_self hl4, h34, hl4, get_lt, set_lt, List.length_append, rateC_ok, n1, n2, n3, n4, c]
    exact fin { zeroC 7 with a := e, r := rateF x.n } _ ⟨s64 (by simp only [zeroC]; omega), z64, z64, z64, z64, z64, z64, rate_64 xn, z64, ⟨by first | exact he | exact idB_sz _ | exact textF_sz _ (by decide) | exact nil_sz, by first | exact nil_sz | exact idB_sz _, by first | exact nil_sz | exact two_sz _ _⟩⟩
  have n5 : ¬ k < 19 := c
  clear c
  by_cases c : k = 19
  · simp [wpk_skip, wpk_seq, k_cond, wpk_block, wpk_exit, wpk_ret, wpk_goto, wpk_label, wpk_loop, k_ops, k_draw0, t_nil, t_cons, KT_eq, KD_eq, wpo_nil, k_cons, k_step, mt_some, mtk_some, KO_eq, KP_eq, K_normal, K_ret, K_exit, KB_normal, KB_ret, KB_exit, KL_normal, KL_ret, KL_exit, K_goto, KB_goto, KL_goto, KS_goto, KS_ret, KS_normal, KS_exit, k_ret, k_normal, stepE, isCall, calleeE, opE, wantE, odE, odS, odL, odSL, fget, fput, initE, keepF, List.map_cons, List.map_nil, binE, intOp, strOp, shOp, unE, eqpE, eqnE, neqB, ressE, resE, packL, packE, flat1, fcells, fillE, setL, cellsOf_bind, cellsO_own, cellsO_ro, lenE_sl, lenE_nils, lenE_sl0, bound, rep, minE, maxE, Option.getD_some, Option.getD_none, isKey, nlS, List.getElem?_cons_zero, List.getElem?_cons_succ, get_lt, set_lt, get_len, get_len_add, set_len, set_len_add, List.append_assoc, List.cons_append, List.nil_append, -getElem?_pos, b27, s27_6, s27_5, s27_4, s27_3, s27_2, s27_1, hw, h3, e0, e1, e2, e3, e4, h4', get_self hl4, h34, hl4, get_lt, set_lt, List.length_append, rateC_ok, v5, n1, n2, n3, n4, n5, c]
    refine k_draw ?_
    simp [wpk_skip, wpk_seq, k_cond, wpk_block, wpk_exit, wpk_ret, wpk_goto, wpk_label, wpk_loop, k_ops, k_draw0, t_nil, t_cons, KT_eq, KD_eq, wpo_nil, k_cons, k_step, mt_some, mtk_some, KO_eq, KP_eq, K_normal, K_ret, K_exit, KB_normal, KB_ret, KB_exit, KL_normal, KL_ret, KL_exit, K_goto, KB_goto, KL_goto, KS_goto, KS_ret, KS_normal, KS_exit, k_ret, k_normal, stepE, isCall, calleeE, opE, wantE, odE, odS, odL, odSL, fget, fput, initE, keepF, List.map_cons, List.map_nil, binE, intOp, strOp, shOp, unE, eqpE, eqnE, neqB, ressE, resE, packL, packE, flat1, fcells, fillE, setL, cellsOf_bind, cellsO_own, cellsO_ro, lenE_sl, lenE_nils, lenE_sl0, bound, rep, minE, maxE, Option.getD_some, Option.getD_none, isKey, nlS, List.getElem?_cons_zero, List.getElem?_cons_succ, get_lt, set_lt, get_len, get_len_add, set_len, set_len_add, List.append_assoc, List.cons_append, List.nil_append, slotsG, slotsE, odT, odsT, optT, partsT, okPairs, okPair, changesE, rdAft, rdO, frLt, nmV, nmVL, nmL, nmS, -getElem?_pos, b27, s27_6, s27_5, s27_4, s27_3, s27_2, s27_1, hw, h3, e0, e1, e2, e3, e4, h4', get_self hl4, h34, hl4, get_lt, set_lt, List.length_append, rateC_ok, v5, n1, n2, n3, n4, n5, c]
    exact fin { zeroC 8 with a := e, r := rateF x.n, y := x.b % 5 } _ ⟨s64 (by simp only [zeroC]; omega), z64, z64, s64 (by show _ ∧ _; simp only; omega), z64, z64, z64, rate_64 xn, z64, ⟨by first | exact he | exact idB_sz _ | exact textF_sz _ (by decide) | exact nil_sz, by first | exact nil_sz | exact idB_sz _, by first | exact nil_sz | exact two_sz _ _⟩⟩
  have n6 : ¬ k = 19 := c
  have n6b : (k == 19) = false := by simpa using c
  clear c
  by_cases c : k < 23
  · have q3 : IntKind.i64.wrap (op - 1) = op - 1 := wrap_small (by omega) (by omega)
    have q4 : IntKind.i64.wrap (op - 1 - x.b % 3) = op - 1 - x.b % 3 := wrap_small (by omega) (by omega)
    have q5 : is64 (if 0 > op - 1 - x.b % 3 then 0 else op - 1 - x.b % 3) := by split <;> exact s64 (by omega)
    have q6 : is64 (if 0 > amountF x.n then 0 else amountF x.n) := by split <;> assumption
    simp [wpk_skip, wpk_seq, k_cond, wpk_block, wpk_exit, wpk_ret, wpk_goto, wpk_label, wpk_loop, k_ops, k_draw0, t_nil, t_cons, KT_eq, KD_eq, wpo_nil, k_cons, k_step, mt_some, mtk_some, KO_eq, KP_eq, K_normal, K_ret, K_exit, KB_normal, KB_ret, KB_exit, KL_normal, KL_ret, KL_exit, K_goto, KB_goto, KL_goto, KS_goto, KS_ret, KS_normal, KS_exit, k_ret, k_normal, stepE, isCall, calleeE, opE, wantE, odE, odS, odL, odSL, fget, fput, initE, keepF, List.map_cons, List.map_nil, binE, intOp, strOp, shOp, unE, eqpE, eqnE, neqB, ressE, resE, packL, packE, flat1, fcells, fillE, setL, cellsOf_bind, cellsO_own, cellsO_ro, lenE_sl, lenE_nils, lenE_sl0, bound, rep, minE, maxE, Option.getD_some, Option.getD_none, isKey, nlS, List.getElem?_cons_zero, List.getElem?_cons_succ, get_lt, set_lt, get_len, get_len_add, set_len, set_len_add, List.append_assoc, List.cons_append, List.nil_append, -getElem?_pos, b27, s27_6, s27_5, s27_4, s27_3, s27_2, s27_1, hw, h3, e0, e1, e2, e3, e4, h4', get_self hl4, h34, hl4, get_lt, set_lt, List.length_append, am, v0, q3, q4, n1, n2, n3, n4, n5, n6, n6b, c]
    refine k_draw ?_
    simp [wpk_skip, wpk_seq, k_cond, wpk_block, wpk_exit, wpk_ret, wpk_goto, wpk_label, wpk_loop, k_ops, k_draw0, t_nil, t_cons, KT_eq, KD_eq, wpo_nil, k_cons, k_step, mt_some, mtk_some, KO_eq, KP_eq, K_normal, K_ret, K_exit, KB_normal, KB_ret, KB_exit, KL_normal, KL_ret, KL_exit, K_goto, KB_goto, KL_goto, KS_goto, KS_ret, KS_normal, KS_exit, k_ret, k_normal, stepE, isCall, calleeE, opE, wantE, odE, odS, odL, odSL, fget, fput, initE, keepF, List.map_cons, List.map_nil, binE, intOp, strOp, shOp, unE, eqpE, eqnE, neqB, ressE, resE, packL, packE, flat1, fcells, fillE, setL, cellsOf_bind, cellsO_own, cellsO_ro, lenE_sl, lenE_nils, lenE_sl0, bound, rep, minE, maxE, Option.getD_some, Option.getD_none, isKey, nlS, List.getElem?_cons_zero, List.getElem?_cons_succ, get_lt, set_lt, get_len, get_len_add, set_len, set_len_add, List.append_assoc, List.cons_append, List.nil_append, slotsG, slotsE, odT, odsT, optT, partsT, okPairs, okPair, changesE, rdAft, rdO, frLt, nmV, nmVL, nmL, nmS, -getElem?_pos, b27, s27_6, s27_5, s27_4, s27_3, s27_2, s27_1, hw, h3, e0, e1, e2, e3, e4, h4', get_self hl4, h34, hl4, get_lt, set_lt, List.length_append, am, v0, q3, q4, n1, n2, n3, n4, n5, n6, n6b, c]
    exact fin0 { zeroC 9 with a := e, p := if 0 > op - 1 - x.b % 3 then 0 else op - 1 - x.b % 3, n := if 0 > amountF x.n then 0 else amountF x.n } ⟨s64 (by simp only [zeroC]; omega), z64, z64, z64, z64, q5, q6, z64, z64, ⟨by first | exact he | exact idB_sz _ | exact textF_sz _ (by decide) | exact nil_sz, by first | exact nil_sz | exact idB_sz _, by first | exact nil_sz | exact two_sz _ _⟩⟩
  have n7 : ¬ k < 23 := c
  clear c
  by_cases c : k < 25
  · have q7 : IntKind.i64.wrap (op + x.n.tdiv 60 % 3) = op + x.n.tdiv 60 % 3 := wrap_small (by omega) (by omega)
    obtain ⟨q, hq⟩ : ∃ q : Nat, x.b % 3 = q := ⟨(x.b % 3).toNat, by omega⟩
    rw [hq] at v0 u0
    have hqc : q = 0 ∨ q = 1 ∨ q = 2 := by omega
    rcases hqc with rfl | rfl | rfl
    all_goals
      simp [wpk_skip, wpk_seq, k_cond, wpk_block, wpk_exit, wpk_ret, wpk_goto, wpk_label, wpk_loop, k_ops, k_draw0, t_nil, t_cons, KT_eq, KD_eq, wpo_nil, k_cons, k_step, mt_some, mtk_some, KO_eq, KP_eq, K_normal, K_ret, K_exit, KB_normal, KB_ret, KB_exit, KL_normal, KL_ret, KL_exit, K_goto, KB_goto, KL_goto, KS_goto, KS_ret, KS_normal, KS_exit, k_ret, k_normal, stepE, isCall, calleeE, opE, wantE, odE, odS, odL, odSL, fget, fput, initE, keepF, List.map_cons, List.map_nil, binE, intOp, strOp, shOp, unE, eqpE, eqnE, neqB, ressE, resE, packL, packE, flat1, fcells, fillE, setL, cellsOf_bind, cellsO_own, cellsO_ro, lenE_sl, lenE_nils, lenE_sl0, bound, rep, minE, maxE, Option.getD_some, Option.getD_none, isKey, nlS, List.getElem?_cons_zero, List.getElem?_cons_succ, get_lt, set_lt, get_len, get_len_add, set_len, set_len_add, List.append_assoc, List.cons_append, List.nil_append, -getElem?_pos, b27, s27_6, s27_5, s27_4, s27_3, s27_2, s27_1, hw, h3, e0, e1, e2, e3, e4, h4', get_self hl4, h34, hl4, get_lt, set_lt, List.length_append, rateC_ok, tn6, tn60, v0, v6, v7, q7, n1, n2, n3, n4, n5, n6, n6b, n7, c]
      refine k_draw ?_
      simp [wpk_skip, wpk_seq, k_cond, wpk_block, wpk_exit, wpk_ret, wpk_goto, wpk_label, wpk_loop, k_ops, k_draw0, t_nil, t_cons, KT_eq, KD_eq, wpo_nil, k_cons, k_step, mt_some, mtk_some, KO_eq, KP_eq, K_normal, K_ret, K_exit, KB_normal, KB_ret, KB_exit, KL_normal, KL_ret, KL_exit, K_goto, KB_goto, KL_goto, KS_goto, KS_ret, KS_normal, KS_exit, k_ret, k_normal, stepE, isCall, calleeE, opE, wantE, odE, odS, odL, odSL, fget, fput, initE, keepF, List.map_cons, List.map_nil, binE, intOp, strOp, shOp, unE, eqpE, eqnE, neqB, ressE, resE, packL, packE, flat1, fcells, fillE, setL, cellsOf_bind, cellsO_own, cellsO_ro, lenE_sl, lenE_nils, lenE_sl0, bound, rep, minE, maxE, Option.getD_some, Option.getD_none, isKey, nlS, List.getElem?_cons_zero, List.getElem?_cons_succ, get_lt, set_lt, get_len, get_len_add, set_len, set_len_add, List.append_assoc, List.cons_append, List.nil_append, slotsG, slotsE, odT, odsT, optT, partsT, okPairs, okPair, changesE, rdAft, rdO, frLt, nmV, nmVL, nmL, nmS, -getElem?_pos, b27, s27_6, s27_5, s27_4, s27_3, s27_2, s27_1, hw, h3, e0, e1, e2, e3, e4, h4', get_self hl4, h34, hl4, get_lt, set_lt, List.length_append, rateC_ok, tn6, tn60, v0, v6, v7, q7, n1, n2, n3, n4, n5, n6, n6b, n7, c]
      exact fin { zeroC 1 with j := _, y := x.n % 6, r := rateF (x.n.tdiv 6), p := op + x.n.tdiv 60 % 3 } _ ⟨s64 (by simp only [zeroC]; omega), z64, z64, s64 (by show _ ∧ _; simp only; omega), z64, s64 (by show _ ∧ _; simp only; omega), z64, rate_64 x6, z64, ⟨by first | exact he | exact idB_sz _ | exact textF_sz _ (by decide) | exact nil_sz, by first | exact nil_sz | exact idB_sz _, by first | exact nil_sz | exact two_sz _ _⟩⟩
  have n8 : ¬ k < 25 := c
  clear c
  by_cases c : k < 27
  · simp [wpk_skip, wpk_seq, k_cond, wpk_block, wpk_exit, wpk_ret, wpk_goto, wpk_label, wpk_loop, k_ops, k_draw0, t_nil, t_cons, KT_eq, KD_eq, wpo_nil, k_cons, k_step, mt_some, mtk_some, KO_eq, KP_eq, K_normal, K_ret, K_exit, KB_normal, KB_ret, KB_exit, KL_normal, KL_ret, KL_exit, K_goto, KB_goto, KL_goto, KS_goto, KS_ret, KS_normal, KS_exit, k_ret, k_normal, stepE, isCall, calleeE, opE, wantE, odE, odS, odL, odSL, fget, fput, initE, keepF, List.map_cons, List.map_nil, binE, intOp, strOp, shOp, unE, eqpE, eqnE, neqB, ressE, resE, packL, packE, flat1, fcells, fillE, setL, cellsOf_bind, cellsO_own, cellsO_ro, lenE_sl, lenE_nils, lenE_sl0, bound, rep, minE, maxE, Option.getD_some, Option.getD_none, isKey, nlS, List.getElem?_cons_zero, List.getElem?_cons_succ, get_lt, set_lt, get_len, get_len_add, set_len, set_len_add, List.append_assoc, List.cons_append, List.nil_append, -getElem?_pos, b27, s27_6, s27_5, s27_4, s27_3, s27_2, s27_1, hw, h3, e0, e1, e2, e3, e4, h4', get_self hl4, h34, hl4, get_lt, set_lt, List.length_append, am, id_ok, n1, n2, n3, n4, n5, n6, n6b, n7, n8, c]
    refine k_draw ?_
    simp [wpk_skip, wpk_seq, k_cond, wpk_block, wpk_exit, wpk_ret, wpk_goto, wpk_label, wpk_loop, k_ops, k_draw0, t_nil, t_cons, KT_eq, KD_eq, wpo_nil, k_cons, k_step, mt_some, mtk_some, KO_eq, KP_eq, K_normal, K_ret, K_exit, KB_normal, KB_ret, KB_exit, KL_normal, KL_ret, KL_exit, K_goto, KB_goto, KL_goto, KS_goto, KS_ret, KS_normal, KS_exit, k_ret, k_normal, stepE, isCall, calleeE, opE, wantE, odE, odS, odL, odSL, fget, fput, initE, keepF, List.map_cons, List.map_nil, binE, intOp, strOp, shOp, unE, eqpE, eqnE, neqB, ressE, resE, packL, packE, flat1, fcells, fillE, setL, cellsOf_bind, cellsO_own, cellsO_ro, lenE_sl, lenE_nils, lenE_sl0, bound, rep, minE, maxE, Option.getD_some, Option.getD_none, isKey, nlS, List.getElem?_cons_zero, List.getElem?_cons_succ, get_lt, set_lt, get_len, get_len_add, set_len, set_len_add, List.append_assoc, List.cons_append, List.nil_append, slotsG, slotsE, odT, odsT, optT, partsT, okPairs, okPair, changesE, rdAft, rdO, frLt, nmV, nmVL, nmL, nmS, -getElem?_pos, b27, s27_6, s27_5, s27_4, s27_3, s27_2, s27_1, hw, h3, e0, e1, e2, e3, e4, h4', get_self hl4, h34, hl4, get_lt, set_lt, List.length_append, am, id_ok, n1, n2, n3, n4, n5, n6, n6b, n7, n8, c]
    exact fin { zeroC 10 with a := e, b := idB x.b, n := amountF x.n } _ ⟨s64 (by simp only [zeroC]; omega), z64, z64, z64, z64, z64, am64, z64, z64, ⟨by first | exact he | exact idB_sz _ | exact textF_sz _ (by decide) | exact nil_sz, by first | exact nil_sz | exact idB_sz _, by first | exact nil_sz | exact two_sz _ _⟩⟩
  have n9 : ¬ k < 27 := c
  clear c
  by_cases c : k < 35
  · simp [wpk_skip, wpk_seq, k_cond, wpk_block, wpk_exit, wpk_ret, wpk_goto, wpk_label, wpk_loop, k_ops, k_draw0, t_nil, t_cons, KT_eq, KD_eq, wpo_nil, k_cons, k_step, mt_some, mtk_some, KO_eq, KP_eq, K_normal, K_ret, K_exit, KB_normal, KB_ret, KB_exit, KL_normal, KL_ret, KL_exit, K_goto, KB_goto, KL_goto, KS_goto, KS_ret, KS_normal, KS_exit, k_ret, k_normal, stepE, isCall, calleeE, opE, wantE, odE, odS, odL, odSL, fget, fput, initE, keepF, List.map_cons, List.map_nil, binE, intOp, strOp, shOp, unE, eqpE, eqnE, neqB, ressE, resE, packL, packE, flat1, fcells, fillE, setL, cellsOf_bind, cellsO_own, cellsO_ro, lenE_sl, lenE_nils, lenE_sl0, bound, rep, minE, maxE, Option.getD_some, Option.getD_none, isKey, nlS, List.getElem?_cons_zero, List.getElem?_cons_succ, get_lt, set_lt, get_len, get_len_add, set_len, set_len_add, List.append_assoc, List.cons_append, List.nil_append, -getElem?_pos, b27, s27_6, s27_5, s27_4, s27_3, s27_2, s27_1, hw, h3, e0, e1, e2, e3, e4, h4', get_self hl4, h34, hl4, get_lt, set_lt, List.length_append, am, n1, n2, n3, n4, n5, n6, n6b, n7, n8, n9, c]
    exact fin0 { zeroC 11 with a := e } ⟨s64 (by simp only [zeroC]; omega), z64, z64, z64, z64, z64, z64, z64, z64, ⟨by first | exact he | exact idB_sz _ | exact textF_sz _ (by decide) | exact nil_sz, by first | exact nil_sz | exact idB_sz _, by first | exact nil_sz | exact two_sz _ _⟩⟩
  have n10 : ¬ k < 35 := c
  clear c
  by_cases c : k < 37
  · simp [wpk_skip, wpk_seq, k_cond, wpk_block, wpk_exit, wpk_ret, wpk_goto, wpk_label, wpk_loop, k_ops, k_draw0, t_nil, t_cons, KT_eq, KD_eq, wpo_nil, k_cons, k_step, mt_some, mtk_some, KO_eq, KP_eq, K_normal, K_ret, K_exit, KB_normal, KB_ret, KB_exit, KL_normal, KL_ret, KL_exit, K_goto, KB_goto, KL_goto, KS_goto, KS_ret, KS_normal, KS_exit, k_ret, k_normal, stepE, isCall, calleeE, opE, wantE, odE, odS, odL, odSL, fget, fput, initE, keepF, List.map_cons, List.map_nil, binE, intOp, strOp, shOp, unE, eqpE, eqnE, neqB, ressE, resE, packL, packE, flat1, fcells, fillE, setL, cellsOf_bind, cellsO_own, cellsO_ro, lenE_sl, lenE_nils, lenE_sl0, bound, rep, minE, maxE, Option.getD_some, Option.getD_none, isKey, nlS, List.getElem?_cons_zero, List.getElem?_cons_succ, get_lt, set_lt, get_len, get_len_add, set_len, set_len_add, List.append_assoc, List.cons_append, List.nil_append, -getElem?_pos, b27, s27_6, s27_5, s27_4, s27_3, s27_2, s27_1, hw, h3, e0, e1, e2, e3, e4, h4', get_self hl4, h34, hl4, get_lt, set_lt, List.length_append, am, n1, n2, n3, n4, n5, n6, n6b, n7, n8, n9, n10, c]
    exact fin0 { zeroC 12 with a := e } ⟨s64 (by simp only [zeroC]; omega), z64, z64, z64, z64, z64, z64, z64, z64, ⟨by first | exact he | exact idB_sz _ | exact textF_sz _ (by decide) | exact nil_sz, by first | exact nil_sz | exact idB_sz _, by first | exact nil_sz | exact two_sz _ _⟩⟩
  have n11 : ¬ k < 37 := c
  clear c
  by_cases c : k = 37
  · have q8 : IntKind.i64.wrap (1 + x.n % 2000000) = 1 + x.n % 2000000 := wrap_small (by omega) (by omega)
    obtain ⟨q, hq⟩ : ∃ q : Nat, x.b.tdiv 5 % 3 = q := ⟨(x.b.tdiv 5 % 3).toNat, by omega⟩
    rw [hq] at v8 u8
    have hqc : q = 0 ∨ q = 1 ∨ q = 2 := by omega
    rcases hqc with rfl | rfl | rfl
    all_goals
      simp [wpk_skip, wpk_seq, k_cond, wpk_block, wpk_exit, wpk_ret, wpk_goto, wpk_label, wpk_loop, k_ops, k_draw0, t_nil, t_cons, KT_eq, KD_eq, wpo_nil, k_cons, k_step, mt_some, mtk_some, KO_eq, KP_eq, K_normal, K_ret, K_exit, KB_normal, KB_ret, KB_exit, KL_normal, KL_ret, KL_exit, K_goto, KB_goto, KL_goto, KS_goto, KS_ret, KS_normal, KS_exit, k_ret, k_normal, stepE, isCall, calleeE, opE, wantE, odE, odS, odL, odSL, fget, fput, initE, keepF, List.map_cons, List.map_nil, binE, intOp, strOp, shOp, unE, eqpE, eqnE, neqB, ressE, resE, packL, packE, flat1, fcells, fillE, setL, cellsOf_bind, cellsO_own, cellsO_ro, lenE_sl, lenE_nils, lenE_sl0, bound, rep, minE, maxE, Option.getD_some, Option.getD_none, isKey, nlS, List.getElem?_cons_zero, List.getElem?_cons_succ, get_lt, set_lt, get_len, get_len_add, set_len, set_len_add, List.append_assoc, List.cons_append, List.nil_append, -getElem?_pos, b27, s27_6, s27_5, s27_4, s27_3, s27_2, s27_1, hw, h3, e0, e1, e2, e3, e4, h4', get_self hl4, h34, hl4, get_lt, set_lt, List.length_append, rateC_ok, id_ok, tb5, tn5, v8, v9, v10, v11, q8, n1, n2, n3, n4, n5, n6, n6b, n7, n8, n9, n10, n11, c]
      refine k_draw ?_
      simp [wpk_skip, wpk_seq, k_cond, wpk_block, wpk_exit, wpk_ret, wpk_goto, wpk_label, wpk_loop, k_ops, k_draw0, t_nil, t_cons, KT_eq, KD_eq, wpo_nil, k_cons, k_step, mt_some, mtk_some, KO_eq, KP_eq, K_normal, K_ret, K_exit, KB_normal, KB_ret, KB_exit, KL_normal, KL_ret, KL_exit, K_goto, KB_goto, KL_goto, KS_goto, KS_ret, KS_normal, KS_exit, k_ret, k_normal, stepE, isCall, calleeE, opE, wantE, odE, odS, odL, odSL, fget, fput, initE, keepF, List.map_cons, List.map_nil, binE, intOp, strOp, shOp, unE, eqpE, eqnE, neqB, ressE, resE, packL, packE, flat1, fcells, fillE, setL, cellsOf_bind, cellsO_own, cellsO_ro, lenE_sl, lenE_nils, lenE_sl0, bound, rep, minE, maxE, Option.getD_some, Option.getD_none, isKey, nlS, List.getElem?_cons_zero, List.getElem?_cons_succ, get_lt, set_lt, get_len, get_len_add, set_len, set_len_add, List.append_assoc, List.cons_append, List.nil_append, slotsG, slotsE, odT, odsT, optT, partsT, okPairs, okPair, changesE, rdAft, rdO, frLt, nmV, nmVL, nmL, nmS, -getElem?_pos, b27, s27_6, s27_5, s27_4, s27_3, s27_2, s27_1, hw, h3, e0, e1, e2, e3, e4, h4', get_self hl4, h34, hl4, get_lt, set_lt, List.length_append, rateC_ok, id_ok, tb5, tn5, v8, v9, v10, v11, q8, n1, n2, n3, n4, n5, n6, n6b, n7, n8, n9, n10, n11, c]
      exact fin { zeroC 2 with a := idB x.b, j := _, r := rateF x.n, y := x.n % 5, p := x.n.tdiv 5 % 4, x := 1 + x.n % 2000000 } _ ⟨s64 (by simp only [zeroC]; omega), z64, z64, s64 (by show _ ∧ _; simp only; omega), z64, s64 (by show _ ∧ _; simp only; omega), z64, rate_64 xn, s64 (by show _ ∧ _; simp only; omega), ⟨by first | exact he | exact idB_sz _ | exact textF_sz _ (by decide) | exact nil_sz, by first | exact nil_sz | exact idB_sz _, by first | exact nil_sz | exact two_sz _ _⟩⟩
  have n12 : ¬ k = 37 := c
  have n12b : (k == 37) = false := by simpa using c
  clear c
  simp [wpk_skip, wpk_seq, k_cond, wpk_block, wpk_exit, wpk_ret, wpk_goto, wpk_label, wpk_loop, k_ops, k_draw0, t_nil, t_cons, KT_eq, KD_eq, wpo_nil, k_cons, k_step, mt_some, mtk_some, KO_eq, KP_eq, K_normal, K_ret, K_exit, KB_normal, KB_ret, KB_exit, KL_normal, KL_ret, KL_exit, K_goto, KB_goto, KL_goto, KS_goto, KS_ret, KS_normal, KS_exit, k_ret, k_normal, stepE, isCall, calleeE, opE, wantE, odE, odS, odL, odSL, fget, fput, initE, keepF, List.map_cons, List.map_nil, binE, intOp, strOp, shOp, unE, eqpE, eqnE, neqB, ressE, resE, packL, packE, flat1, fcells, fillE, setL, cellsOf_bind, cellsO_own, cellsO_ro, lenE_sl, lenE_nils, lenE_sl0, bound, rep, minE, maxE, Option.getD_some, Option.getD_none, isKey, nlS, List.getElem?_cons_zero, List.getElem?_cons_succ, get_lt, set_lt, get_len, get_len_add, set_len, set_len_add, List.append_assoc, List.cons_append, List.nil_append, -getElem?_pos, b27, s27_6, s27_5, s27_4, s27_3, s27_2, s27_1, hw, h3, e0, e1, e2, e3, e4, h4', get_self hl4, h34, hl4, get_lt, set_lt, List.length_append, id_ok, v12, tx9, n1, n2, n3, n4, n5, n6, n6b, n7, n8, n9, n10, n11, n12, n12b]
  refine k_draw ?_
  simp [wpk_skip, wpk_seq, k_cond, wpk_block, wpk_exit, wpk_ret, wpk_goto, wpk_label, wpk_loop, k_ops, k_draw0, t_nil, t_cons, KT_eq, KD_eq, wpo_nil, k_cons, k_step, mt_some, mtk_some, KO_eq, KP_eq, K_normal, K_ret, K_exit, KB_normal, KB_ret, KB_exit, KL_normal, KL_ret, KL_exit, K_goto, KB_goto, KL_goto, KS_goto, KS_ret, KS_normal, KS_exit, k_ret, k_normal, stepE, isCall, calleeE, opE, wantE, odE, odS, odL, odSL, fget, fput, initE, keepF, List.map_cons, List.map_nil, binE, intOp, strOp, shOp, unE, eqpE, eqnE, neqB, ressE, resE, packL, packE, flat1, fcells, fillE, setL, cellsOf_bind, cellsO_own, cellsO_ro, lenE_sl, lenE_nils, lenE_sl0, bound, rep, minE, maxE, Option.getD_some, Option.getD_none, isKey, nlS, List.getElem?_cons_zero, List.getElem?_cons_succ, get_lt, set_lt, get_len, get_len_add, set_len, set_len_add, List.append_assoc, List.cons_append, List.nil_append, slotsG, slotsE, odT, odsT, optT, partsT, okPairs, okPair, changesE, rdAft, rdO, frLt, nmV, nmVL, nmL, nmS, -getElem?_pos, b27, s27_6, s27_5, s27_4, s27_3, s27_2, s27_1, hw, h3, e0, e1, e2, e3, e4, h4', get_self hl4, h34, hl4, get_lt, set_lt, List.length_append, id_ok, v12, tx9, n1, n2, n3, n4, n5, n6, n6b, n7, n8, n9, n10, n11, n12, n12b]
  exact fin { zeroC (x.b % 14) with a := textF x.w 9, b := idB x.a, n := x.n, y := x.b } _ ⟨s64 (by show _ ∧ _; simp only [zeroC]; omega), z64, z64, xb, z64, z64, xn, z64, z64, ⟨by first | exact he | exact idB_sz _ | exact textF_sz _ (by decide) | exact nil_sz, by first | exact nil_sz | exact idB_sz _, by first | exact nil_sz | exact two_sz _ _⟩⟩
set_option maxRecDepth 20000 in
set_option maxHeartbeats 8000000 in
theorem do_ok (x : Pc) (hx : P64 x) (h : LH) (g : SV) (hat : AtOK h g) : WPc C 27 [.s g, .agg (encP x)] h fun u h' => Gr h h' ∧ ∃ m, u = .agg (encC m) ∧ W64 m := by
  refine WPc.post fun Ψ hΨ => ?_
  have e1 : (encP x)[1]? = some (.int .i64 x.a) := rfl
  have el : (encP x).length = 5 := rfl
  have hd : 3 ≠ 0 := by decide
  have main : ∀ (e : ByteArray), e.size ≤ 9223372036854775807 → ∀ (xr : Fr) (h1 : LH), Gr h h1 → h1[h.length]? = some (.own 63 (encP x)) → h1[h.length + 1]? = some (.own 23 (encC (zeroC 0))) →
      WPk C s27_3 ((0, some (.s g)) :: (3, some (.s (.ptr h.length 0))) :: (4, some (.s (.ptr (h.length + 1) 0))) :: (5, some (.s (.str e))) :: xr) h1 (KR [.cell 4 true 12] Ψ) := by
    intro e he xr h1 g1 p1 p2
    have tail := fun (op : Int) (hop : 0 ≤ op ∧ op ≤ 399) (xr : Fr) => do_tail x hx e he op hop h h1 g1 h.length (h.length + 1) p1 p2 (Nat.le_succ _) xr Ψ (fun m h' gr hm => hΨ _ _ ⟨gr, m, rfl, hm⟩)
    obtain ⟨v, hv, hc⟩ := hat e h1 g1
    rcases hc with rfl | ⟨j, cs, s, n, a, b, rfl, q1, q2, q3⟩
    · have := tail 0 (by omega) [(7, some (.s .nilp)), (24, some (.s (.bool false)))]
      generalize hk : s27_5 = kk at *
      simp [wpk_skip, wpk_seq, k_cond, wpk_block, wpk_exit, wpk_ret, wpk_goto, wpk_label, wpk_loop, k_ops, k_draw0, t_nil, t_cons, KT_eq, KD_eq, wpo_nil, k_cons, k_step, mt_some, mtk_some, KO_eq, KP_eq, K_normal, K_ret, K_exit, KB_normal, KB_ret, KB_exit, KL_normal, KL_ret, KL_exit, K_goto, KB_goto, KL_goto, KS_goto, KS_ret, KS_normal, KS_exit, k_ret, k_normal, stepE, isCall, calleeE, opE, wantE, odE, odS, odL, odSL, fget, fput, initE, keepF, List.map_cons, List.map_nil, binE, intOp, strOp, shOp, unE, eqpE, eqnE, neqB, ressE, resE, packL, packE, flat1, fcells, fillE, setL, cellsOf_bind, cellsO_own, cellsO_ro, lenE_sl, lenE_nils, lenE_sl0, bound, rep, minE, maxE, Option.getD_some, Option.getD_none, isKey, nlS, List.getElem?_cons_zero, List.getElem?_cons_succ, get_lt, set_lt, get_len, get_len_add, set_len, set_len_add, List.append_assoc, List.cons_append, List.nil_append, -getElem?_pos, s27_3, s27_4, hk, hv]
      exact this
    · have := tail (openF n) (openF_bd n) []
      have ho := open_ok q3
      generalize hk : s27_5 = kk at *
      simp [wpk_skip, wpk_seq, k_cond, wpk_block, wpk_exit, wpk_ret, wpk_goto, wpk_label, wpk_loop, k_ops, k_draw0, t_nil, t_cons, KT_eq, KD_eq, wpo_nil, k_cons, k_step, mt_some, mtk_some, KO_eq, KP_eq, K_normal, K_ret, K_exit, KB_normal, KB_ret, KB_exit, KL_normal, KL_ret, KL_exit, K_goto, KB_goto, KL_goto, KS_goto, KS_ret, KS_normal, KS_exit, k_ret, k_normal, stepE, isCall, calleeE, opE, wantE, odE, odS, odL, odSL, fget, fput, initE, keepF, List.map_cons, List.map_nil, binE, intOp, strOp, shOp, unE, eqpE, eqnE, neqB, ressE, resE, packL, packE, flat1, fcells, fillE, setL, cellsOf_bind, cellsO_own, cellsO_ro, lenE_sl, lenE_nils, lenE_sl0, bound, rep, minE, maxE, Option.getD_some, Option.getD_none, isKey, nlS, List.getElem?_cons_zero, List.getElem?_cons_succ, get_lt, set_lt, get_len, get_len_add, set_len, set_len_add, List.append_assoc, List.cons_append, List.nil_append, -getElem?_pos, s27_3, s27_4, hk, hv, q1, q2, ho]
      exact this
  refine WPc.intro (e := e27) rfl (by simp [e27]) ?_
  show WPk C b27 _ _ (KR [.cell 4 true 12] _)
  have z0 : encC (zeroC 0) = [.int .i64 0, .str ⟨#[]⟩, .str ⟨#[]⟩, .str ⟨#[]⟩, .int .i64 0, .int .i64 0, .int .i64 0, .int .i64 0, .int .i64 0, .int .i64 0, .int .i64 0, .int .i64 0] := rfl
  rw [z0] at main
  have f1 := fun h => id_ok (x.a.tmod 3) h
  have f2 := fun h => id_ok x.a h
  generalize hk : s27_3 = kk at *
  by_cases c1 : x.a.tmod 17 = 16
  · have m1 := main (idB x.a) (idB_sz _) [] (h ++ [.own 63 (encP x), .own 23 (encC (zeroC 0)), idO, idO]) (Gr.self _ _) get_len get_len_add
    rw [z0] at m1
    have c2 : (x.a.tmod 17 == 16) = true := by simpa using c1
    simp [wpk_skip, wpk_seq, k_cond, wpk_block, wpk_exit, wpk_ret, wpk_goto, wpk_label, wpk_loop, k_ops, k_draw0, t_nil, t_cons, KT_eq, KD_eq, wpo_nil, k_cons, k_step, mt_some, mtk_some, KO_eq, KP_eq, K_normal, K_ret, K_exit, KB_normal, KB_ret, KB_exit, KL_normal, KL_ret, KL_exit, K_goto, KB_goto, KL_goto, KS_goto, KS_ret, KS_normal, KS_exit, k_ret, k_normal, stepE, isCall, calleeE, opE, wantE, odE, odS, odL, odSL, fget, fput, initE, keepF, List.map_cons, List.map_nil, binE, intOp, strOp, shOp, unE, eqpE, eqnE, neqB, ressE, resE, packL, packE, flat1, fcells, fillE, setL, cellsOf_bind, cellsO_own, cellsO_ro, lenE_sl, lenE_nils, lenE_sl0, bound, rep, minE, maxE, Option.getD_some, Option.getD_none, isKey, nlS, List.getElem?_cons_zero, List.getElem?_cons_succ, get_lt, set_lt, get_len, get_len_add, set_len, set_len_add, List.append_assoc, List.cons_append, List.nil_append, -getElem?_pos, b27, s27_1, s27_2, hk, e1, el, f1, f2, c1, c2]
    exact m1
  · have m1 := main (idB (x.a.tmod 3)) (idB_sz _) [(16, some (.s (.bool false)))] (h ++ [.own 63 (encP x), .own 23 (encC (zeroC 0)), idO]) (Gr.self _ _) get_len get_len_add
    rw [z0] at m1
    have c2 : (x.a.tmod 17 == 16) = false := by simpa using c1
    simp [wpk_skip, wpk_seq, k_cond, wpk_block, wpk_exit, wpk_ret, wpk_goto, wpk_label, wpk_loop, k_ops, k_draw0, t_nil, t_cons, KT_eq, KD_eq, wpo_nil, k_cons, k_step, mt_some, mtk_some, KO_eq, KP_eq, K_normal, K_ret, K_exit, KB_normal, KB_ret, KB_exit, KL_normal, KL_ret, KL_exit, K_goto, KB_goto, KL_goto, KS_goto, KS_ret, KS_normal, KS_exit, k_ret, k_normal, stepE, isCall, calleeE, opE, wantE, odE, odS, odL, odSL, fget, fput, initE, keepF, List.map_cons, List.map_nil, binE, intOp, strOp, shOp, unE, eqpE, eqnE, neqB, ressE, resE, packL, packE, flat1, fcells, fillE, setL, cellsOf_bind, cellsO_own, cellsO_ro, lenE_sl, lenE_nils, lenE_sl0, bound, rep, minE, maxE, Option.getD_some, Option.getD_none, isKey, nlS, List.getElem?_cons_zero, List.getElem?_cons_succ, get_lt, set_lt, get_len, get_len_add, set_len, set_len_add, List.append_assoc, List.cons_append, List.nil_append, -getElem?_pos, b27, s27_1, s27_2, hk, e1, el, f1, f2, c1, c2]
    exact m1
end Go.Proofs.YtbgfcgmbihhlbaaDoor.Ev.CW
