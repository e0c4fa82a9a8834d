/- What the functions over losses come to. -/
import Derived.Test.YtfnihfcdoibleaaUseA
set_option linter.unusedSimpArgs false
set_option linter.unusedVariables false
namespace Go.Proofs.Ytfnihfcdoibleaa.Ev.CU
open Go

structure Vi where
  o : Int
  e : Int
  l : Int
def encV (v : Vi) : List SV := [.int .i64 v.o, .int .i64 v.e, .int .i64 v.l]
theorem encV_len (v : Vi) : (encV v).length = 3 := rfl

def lefts (l : List Vi) : List Int := l.map Vi.l
/-- Rows of losses as they may be. -/
structure Good (l : List Vi) : Prop where
  pos : ∀ v ∈ l, 1 ≤ v.l
  sum : (lefts l).sum ≤ 100000000000
  len : l.length ≤ 12
  is : ∀ v ∈ l, is64 v.e ∧ is64 v.o

theorem sum_nonneg : ∀ {l : List Int}, (∀ x ∈ l, 0 ≤ x) → 0 ≤ l.sum
  | [], _ => by simp
  | a :: l, h => by
    have := sum_nonneg (l := l) fun x hx => h x (List.mem_cons_of_mem _ hx)
    have := h a List.mem_cons_self
    simp; omega
theorem sum_take_le {l : List Int} (h : ∀ x ∈ l, 0 ≤ x) (k : Nat) : 0 ≤ (l.take k).sum ∧ (l.take k).sum ≤ l.sum := by
  have e := congrArg List.sum (List.take_append_drop k l)
  rw [List.sum_append] at e
  have a := sum_nonneg (l := l.take k) fun x hx => h x (List.mem_of_mem_take hx)
  have b := sum_nonneg (l := l.drop k) fun x hx => h x (List.mem_of_mem_drop hx)
  omega
theorem sum_take_succ (l : List Int) {k : Nat} (hk : k < l.length) : (l.take (k + 1)).sum = (l.take k).sum + l[k] := by
  rw [List.take_succ_eq_append_getElem hk, List.sum_append]; simp
theorem lefts_take (l : List Vi) (k : Nat) : lefts (l.take k) = (lefts l).take k := by unfold lefts; rw [List.map_take]
theorem lefts_nonneg {l : List Vi} (g : ∀ v ∈ l, 1 ≤ v.l) : ∀ x ∈ lefts l, 0 ≤ x := by
  intro x hx
  obtain ⟨v, hv, rfl⟩ := List.mem_map.1 hx
  have := g v hv; omega
theorem Good.bound {l : List Vi} (g : Good l) {k : Nat} (hk : k < l.length) : 1 ≤ l[k].l ∧ l[k].l ≤ 100000000000 := by
  refine ⟨g.pos _ (List.getElem_mem hk), ?_⟩
  have a := sum_take_succ (lefts l) (k := k) (by simpa [lefts] using hk)
  have b := sum_take_le (lefts_nonneg g.pos) k
  have c := sum_take_le (lefts_nonneg g.pos) (k + 1)
  have d := g.sum
  have e : (lefts l)[k]'(by simpa [lefts] using hk) = l[k].l := by simp [lefts]
  omega

def vecF (year : Int) : Int → List Vi → List Int
  | _, [] => []
  | left, v :: r => (if v.e ≥ year then min v.l left else 0) :: vecF year (left - (if v.e ≥ year then min v.l left else 0)) r
theorem vecF_len (year : Int) : ∀ (l : List Vi) (left : Int), (vecF year left l).length = l.length
  | [], _ => rfl
  | v :: r, left => by simp [vecF, vecF_len year r]

theorem vec_ok {h : LH} {v : SV} {l : List Vi} (r : Rd h 37 3 encV v l) (g : Good l) (year : Int) {room : Int} (hr : is64 room) :
    WPc C 17 [.s v, .s (.int .i64 year), .s (.int .i64 room)] h fun u h' => Gr h h' ∧ ∃ w, u = .s w ∧ Ow h.length h' 3 encI w (vecF year (max 0 room) l) := by
  refine WPc.intro (e := e17) rfl (by simp [e17]) ?_
  show WPk C b17 _ _ (KR [.tmp 6] _)
  have hr0 := hr
  unfold is64 at hr0
  have hm : (if room > 0 then room else 0) = max 0 room := by split <;> omega
  have hl := g.len
  have hrl := r.len
  simp [wpk_skip, wpk_seq, k_cond, wpk_block, wpk_exit, wpk_ret, wpk_loop, k_ops, k_draw0, t_nil, t_cons, KT_eq, KD_eq, wpo_nil, k_cons, k_step, mt_some, mtk_some, KO_eq, KP_eq, K_normal, K_ret, K_exit, KB_normal, KB_ret, KB_exit, KL_normal, KL_ret, KL_exit, k_ret, k_normal, stepE, isCall, calleeE, opE, wantE, odE, odS, odL, odSL, fget, fput, initE, keepF, List.map_cons, List.map_nil, binE, intOp, strOp, shOp, unE, eqpE, eqnE, neqB, ressE, resE, packL, packE, flat1, fcells, fillE, setL, cellsOf_bind, cellsO_own, cellsO_ro, lenE_sl, lenE_nils, lenE_sl0, bound, rep, minE, maxE, List.getElem?_cons_zero, List.getElem?_cons_succ, get_lt, set_lt, get_len, get_len_add, set_len, set_len_add, List.append_assoc, List.cons_append, List.nil_append, -getElem?_pos, b17, s17_4, s17_3, s17_2, s17_1, hrl, hm]
  refine WPl.inv (fun n fr h' => Gr h h' ∧ ∃ k left w acc, k ≤ l.length ∧ n = l.length - k ∧ 0 ≤ left ∧ left < 9223372036854775808 ∧ Ow h.length h' 3 encI w acc ∧ acc.length = k ∧ acc ++ vecF year left (l.drop k) = vecF year (max 0 room) l ∧
    fr = [(1, some (.s (.int .i64 year))), (7, some (.s (.int .i64 left))), (8, some (.s w)), (14, some (.s v)), (15, some (.s (.int .i64 l.length))), (16, some (.s (.int .i64 k)))]) ?_ _ _ _ ⟨Gr.refl h, 0, max 0 room, .nils, [], Nat.zero_le _, rfl, by omega, by omega, Ow.nil _ _, rfl, by simp, rfl⟩
  rintro n fr h' ⟨gr, k, left, w, acc, hk, rfl, hl0, hl1, ow, hacc, he, rfl⟩
  refine ⟨by simp [keepF, fget], ?_⟩
  by_cases hlt : k < l.length
  · have r' := r.gr gr
    obtain ⟨i, p, o, ob, vs, rfl, q2, q3, q4, q5, -⟩ := r'.at encV_len hlt
    have hb := g.bound hlt
    have q6 := lt_of_some q2
    have w1 : IntKind.i64.wrap ((k : Int) + 1) = ((k + 1 : Nat) : Int) := wrap_small (by omega) (by omega)
    have hd : l.drop k = l[k] :: l.drop (k + 1) := List.drop_eq_getElem_cons hlt
    rw [hd] at he
    simp only [vecF] at he
    simp only [encV] at q5
    generalize hx : (if l[k].e ≥ year then min l[k].l left else 0) = x at he
    have hx0 : 0 ≤ x ∧ x ≤ left := by rw [← hx]; split <;> omega
    have w2 : IntKind.i64.wrap (left - x) = left - x := wrap_small (by omega) (by omega)
    have hA := ow.app1 (y := 8) encI_len (by omega)
    have hmin : (if left < l[k].l then left else l[k].l) = min l[k].l left := by split <;> omega
    by_cases hy : l[k].e ≥ year
    · rw [if_pos hy] at hx
      rw [hx] at hmin
      simp [wpk_skip, wpk_seq, k_cond, wpk_block, wpk_exit, wpk_ret, wpk_loop, k_ops, k_draw0, t_nil, t_cons, KT_eq, KD_eq, wpo_nil, k_cons, k_step, mt_some, mtk_some, KO_eq, KP_eq, K_normal, K_ret, K_exit, KB_normal, KB_ret, KB_exit, KL_normal, KL_ret, KL_exit, k_ret, k_normal, stepE, isCall, calleeE, opE, wantE, odE, odS, odL, odSL, fget, fput, initE, keepF, List.map_cons, List.map_nil, binE, intOp, strOp, shOp, unE, eqpE, eqnE, neqB, ressE, resE, packL, packE, flat1, fcells, fillE, setL, cellsOf_bind, cellsO_own, cellsO_ro, lenE_sl, lenE_nils, lenE_sl0, bound, rep, minE, maxE, List.getElem?_cons_zero, List.getElem?_cons_succ, get_lt, set_lt, get_len, get_len_add, set_len, set_len_add, List.append_assoc, List.cons_append, List.nil_append, -getElem?_pos, l17_0_2, l17_0_1, l17_0, hlt, q2, q3, q4, q5, q6, w1, hy, hmin, w2, elems, hA]
      obtain ⟨f1, f2⟩ := Ow.step gr ow x [LO.own 37 [.int .i64 l[k].o, .int .i64 l[k].e, .int .i64 l[k].l], LO.own 3 [.int .i64 x]] (m := 2) rfl rfl rfl
      exact ⟨_, by omega, f1, k + 1, hlt, rfl, left - x, by omega, by omega, _, _, f2, by simp [hacc], by simpa using he, rfl, rfl, rfl⟩
    · rw [if_neg hy] at hx
      subst hx
      rw [Int.sub_zero] at w2 he
      simp [wpk_skip, wpk_seq, k_cond, wpk_block, wpk_exit, wpk_ret, wpk_loop, k_ops, k_draw0, t_nil, t_cons, KT_eq, KD_eq, wpo_nil, k_cons, k_step, mt_some, mtk_some, KO_eq, KP_eq, K_normal, K_ret, K_exit, KB_normal, KB_ret, KB_exit, KL_normal, KL_ret, KL_exit, k_ret, k_normal, stepE, isCall, calleeE, opE, wantE, odE, odS, odL, odSL, fget, fput, initE, keepF, List.map_cons, List.map_nil, binE, intOp, strOp, shOp, unE, eqpE, eqnE, neqB, ressE, resE, packL, packE, flat1, fcells, fillE, setL, cellsOf_bind, cellsO_own, cellsO_ro, lenE_sl, lenE_nils, lenE_sl0, bound, rep, minE, maxE, List.getElem?_cons_zero, List.getElem?_cons_succ, get_lt, set_lt, get_len, get_len_add, set_len, set_len_add, List.append_assoc, List.cons_append, List.nil_append, -getElem?_pos, l17_0_2, l17_0_1, l17_0, hlt, q2, q3, q4, q5, q6, w1, hy, w2, elems, hA]
      obtain ⟨f1, f2⟩ := Ow.step gr ow 0 [LO.own 37 [.int .i64 l[k].o, .int .i64 l[k].e, .int .i64 l[k].l], LO.own 3 [.int .i64 0]] (m := 2) rfl rfl rfl
      exact ⟨_, by omega, f1, k + 1, hlt, rfl, left, by omega, by omega, _, _, f2, by simp [hacc], by simpa using he, rfl, rfl, rfl⟩
  · obtain rfl : k = l.length := by omega
    simp [wpk_skip, wpk_seq, k_cond, wpk_block, wpk_exit, wpk_ret, wpk_loop, k_ops, k_draw0, t_nil, t_cons, KT_eq, KD_eq, wpo_nil, k_cons, k_step, mt_some, mtk_some, KO_eq, KP_eq, K_normal, K_ret, K_exit, KB_normal, KB_ret, KB_exit, KL_normal, KL_ret, KL_exit, k_ret, k_normal, stepE, isCall, calleeE, opE, wantE, odE, odS, odL, odSL, fget, fput, initE, keepF, List.map_cons, List.map_nil, binE, intOp, strOp, shOp, unE, eqpE, eqnE, neqB, ressE, resE, packL, packE, flat1, fcells, fillE, setL, cellsOf_bind, cellsO_own, cellsO_ro, lenE_sl, lenE_nils, lenE_sl0, bound, rep, minE, maxE, List.getElem?_cons_zero, List.getElem?_cons_succ, get_lt, set_lt, get_len, get_len_add, set_len, set_len_add, List.append_assoc, List.cons_append, List.nil_append, -getElem?_pos, l17_0_2, l17_0_1, l17_0, hlt]
    rw [List.drop_eq_nil_of_le (Nat.le_refl _)] at he
    simp only [vecF, List.append_nil] at he
    exact ⟨gr, he ▸ ow⟩

theorem rvec_ok {h : LH} {v : SV} {l : List Vi} (r : Rd h 37 3 encV v l) (g : Good l) (year : Int) {room : Int} (hr : is64 room) :
    WPc C 26 [.s v, .s (.int .i64 year), .s (.int .i64 room)] h fun u h' => Gr h h' ∧ ∃ w, u = .s w ∧ Ow h.length h' 3 encI w (vecF year (max 0 room) l) := by
  refine WPc.intro (e := e26) rfl (by simp [e26]) ?_
  show WPk C b26 _ _ (KR [.tmp 6] _)
  have hr0 := hr
  unfold is64 at hr0
  have hl := g.len
  have hrl := r.len
  simp [wpk_skip, wpk_seq, k_cond, wpk_block, wpk_exit, wpk_ret, wpk_loop, k_ops, k_draw0, t_nil, t_cons, KT_eq, KD_eq, wpo_nil, k_cons, k_step, mt_some, mtk_some, KO_eq, KP_eq, K_normal, K_ret, K_exit, KB_normal, KB_ret, KB_exit, KL_normal, KL_ret, KL_exit, k_ret, k_normal, stepE, isCall, calleeE, opE, wantE, odE, odS, odL, odSL, fget, fput, initE, keepF, List.map_cons, List.map_nil, binE, intOp, strOp, shOp, unE, eqpE, eqnE, neqB, ressE, resE, packL, packE, flat1, fcells, fillE, setL, cellsOf_bind, cellsO_own, cellsO_ro, lenE_sl, lenE_nils, lenE_sl0, bound, rep, minE, maxE, List.getElem?_cons_zero, List.getElem?_cons_succ, get_lt, set_lt, get_len, get_len_add, set_len, set_len_add, List.append_assoc, List.cons_append, List.nil_append, -getElem?_pos, b26, s26_3, s26_2, s26_1, hrl]
  refine WPl.inv (fun n fr h' => Gr h h' ∧ ∃ k left w acc, k ≤ l.length ∧ n = l.length - k ∧ -9223372036854775808 ≤ left ∧ left < 9223372036854775808 ∧ Ow h.length h' 3 encI w acc ∧ acc.length = k ∧ acc ++ vecF year (max 0 left) (l.drop k) = vecF year (max 0 room) l ∧
    fr = [(1, some (.s (.int .i64 year))), (2, some (.s (.int .i64 left))), (7, some (.s w)), (11, some (.s v)), (12, some (.s (.int .i64 l.length))), (13, some (.s (.int .i64 k)))]) ?_ _ _ _ ⟨Gr.refl h, 0, room, .nils, [], Nat.zero_le _, rfl, by omega, by omega, Ow.nil _ _, rfl, by simp, rfl⟩
  rintro n fr h' ⟨gr, k, left, w, acc, hk, rfl, hl0, hl1, ow, hacc, he, rfl⟩
  refine ⟨by simp [keepF, fget], ?_⟩
  by_cases hlt : k < l.length
  · have r' := r.gr gr
    obtain ⟨i, p, o, ob, vs, rfl, q2, q3, q4, q5, -⟩ := r'.at encV_len hlt
    have hb := g.bound hlt
    have q6 := lt_of_some q2
    have w1 : IntKind.i64.wrap ((k : Int) + 1) = ((k + 1 : Nat) : Int) := wrap_small (by omega) (by omega)
    have hd : l.drop k = l[k] :: l.drop (k + 1) := List.drop_eq_getElem_cons hlt
    rw [hd] at he
    simp only [vecF] at he
    simp only [encV] at q5
    generalize hx : (if l[k].e ≥ year then min l[k].l (max 0 left) else 0) = x at he
    have hx0 : 0 ≤ x ∧ x ≤ max 0 left := by rw [← hx]; split <;> omega
    have hx1 : max 0 left - x = max 0 (left - x) := by omega
    rw [hx1] at he
    have w2 : IntKind.i64.wrap (left - x) = left - x := wrap_small (by omega) (by omega)
    have hA := ow.app1 (y := 8) encI_len (by omega)
    have hmax : (if 0 > left then 0 else left) = max 0 left := by split <;> omega
    have hmin : (if max 0 left < l[k].l then max 0 left else l[k].l) = min l[k].l (max 0 left) := by split <;> omega
    by_cases hy : l[k].e ≥ year
    · rw [if_pos hy] at hx
      rw [hx] at hmin
      simp [wpk_skip, wpk_seq, k_cond, wpk_block, wpk_exit, wpk_ret, wpk_loop, k_ops, k_draw0, t_nil, t_cons, KT_eq, KD_eq, wpo_nil, k_cons, k_step, mt_some, mtk_some, KO_eq, KP_eq, K_normal, K_ret, K_exit, KB_normal, KB_ret, KB_exit, KL_normal, KL_ret, KL_exit, k_ret, k_normal, stepE, isCall, calleeE, opE, wantE, odE, odS, odL, odSL, fget, fput, initE, keepF, List.map_cons, List.map_nil, binE, intOp, strOp, shOp, unE, eqpE, eqnE, neqB, ressE, resE, packL, packE, flat1, fcells, fillE, setL, cellsOf_bind, cellsO_own, cellsO_ro, lenE_sl, lenE_nils, lenE_sl0, bound, rep, minE, maxE, List.getElem?_cons_zero, List.getElem?_cons_succ, get_lt, set_lt, get_len, get_len_add, set_len, set_len_add, List.append_assoc, List.cons_append, List.nil_append, -getElem?_pos, l26_0_2, l26_0_1, l26_0, hlt, q2, q3, q4, q5, q6, w1, hy, hmax, hmin, w2, elems, hA]
      obtain ⟨f1, f2⟩ := Ow.step gr ow x [LO.own 37 [.int .i64 l[k].o, .int .i64 l[k].e, .int .i64 l[k].l], LO.own 3 [.int .i64 x]] (m := 2) rfl rfl rfl
      exact ⟨_, by omega, f1, k + 1, hlt, rfl, left - x, by omega, by omega, _, _, f2, by simp [hacc], by simpa using he, rfl, rfl, rfl⟩
    · rw [if_neg hy] at hx
      subst hx
      rw [Int.sub_zero] at w2 he
      simp [wpk_skip, wpk_seq, k_cond, wpk_block, wpk_exit, wpk_ret, wpk_loop, k_ops, k_draw0, t_nil, t_cons, KT_eq, KD_eq, wpo_nil, k_cons, k_step, mt_some, mtk_some, KO_eq, KP_eq, K_normal, K_ret, K_exit, KB_normal, KB_ret, KB_exit, KL_normal, KL_ret, KL_exit, k_ret, k_normal, stepE, isCall, calleeE, opE, wantE, odE, odS, odL, odSL, fget, fput, initE, keepF, List.map_cons, List.map_nil, binE, intOp, strOp, shOp, unE, eqpE, eqnE, neqB, ressE, resE, packL, packE, flat1, fcells, fillE, setL, cellsOf_bind, cellsO_own, cellsO_ro, lenE_sl, lenE_nils, lenE_sl0, bound, rep, minE, maxE, List.getElem?_cons_zero, List.getElem?_cons_succ, get_lt, set_lt, get_len, get_len_add, set_len, set_len_add, List.append_assoc, List.cons_append, List.nil_append, -getElem?_pos, l26_0_2, l26_0_1, l26_0, hlt, q2, q3, q4, q5, q6, w1, hy, w2, elems, hA]
      obtain ⟨f1, f2⟩ := Ow.step gr ow 0 [LO.own 37 [.int .i64 l[k].o, .int .i64 l[k].e, .int .i64 l[k].l], LO.own 3 [.int .i64 0]] (m := 2) rfl rfl rfl
      exact ⟨_, by omega, f1, k + 1, hlt, rfl, left, by omega, by omega, _, _, f2, by simp [hacc], by simpa using he, rfl, rfl, rfl⟩
  · obtain rfl : k = l.length := by omega
    simp [wpk_skip, wpk_seq, k_cond, wpk_block, wpk_exit, wpk_ret, wpk_loop, k_ops, k_draw0, t_nil, t_cons, KT_eq, KD_eq, wpo_nil, k_cons, k_step, mt_some, mtk_some, KO_eq, KP_eq, K_normal, K_ret, K_exit, KB_normal, KB_ret, KB_exit, KL_normal, KL_ret, KL_exit, k_ret, k_normal, stepE, isCall, calleeE, opE, wantE, odE, odS, odL, odSL, fget, fput, initE, keepF, List.map_cons, List.map_nil, binE, intOp, strOp, shOp, unE, eqpE, eqnE, neqB, ressE, resE, packL, packE, flat1, fcells, fillE, setL, cellsOf_bind, cellsO_own, cellsO_ro, lenE_sl, lenE_nils, lenE_sl0, bound, rep, minE, maxE, List.getElem?_cons_zero, List.getElem?_cons_succ, get_lt, set_lt, get_len, get_len_add, set_len, set_len_add, List.append_assoc, List.cons_append, List.nil_append, -getElem?_pos, l26_0_2, l26_0_1, l26_0, hlt]
    rw [List.drop_eq_nil_of_le (Nat.le_refl _)] at he
    simp only [vecF, List.append_nil] at he
    exact ⟨gr, he ▸ ow⟩

theorem same_ok {h : LH} {v w : SV} {l m : List Int} (r : Rd h 3 1 encI v l) (q : Rd h 3 1 encI w m) (hl : l.length < 1000000) : callX C 20 [.s v, .s w] h = some (.s (.bool (decide (l = m))), h) := by
  apply callX_wp
  refine WPc.intro (e := e20) rfl (by simp [e20]) ?_
  show WPk C b20 _ _ (KR [.tmp 4] _)
  by_cases hlen : l.length = m.length
  · have hlen' : ((l.length : Int) != m.length) = false := by simp [hlen]
    simp [wpk_skip, wpk_seq, k_cond, wpk_block, wpk_exit, wpk_ret, wpk_loop, k_ops, k_draw0, t_nil, t_cons, KT_eq, KD_eq, wpo_nil, k_cons, k_step, mt_some, mtk_some, KO_eq, KP_eq, K_normal, K_ret, K_exit, KB_normal, KB_ret, KB_exit, KL_normal, KL_ret, KL_exit, k_ret, k_normal, stepE, isCall, calleeE, opE, wantE, odE, odS, odL, odSL, fget, fput, initE, keepF, List.map_cons, List.map_nil, binE, intOp, strOp, shOp, unE, eqpE, eqnE, neqB, ressE, resE, packL, packE, flat1, fcells, fillE, setL, cellsOf_bind, cellsO_own, cellsO_ro, lenE_sl, lenE_nils, lenE_sl0, bound, rep, minE, maxE, List.getElem?_cons_zero, List.getElem?_cons_succ, get_lt, set_lt, get_len, get_len_add, set_len, set_len_add, List.append_assoc, List.cons_append, List.nil_append, -getElem?_pos, b20, s20_3, s20_2, s20_1, r.len, q.len, hlen']
    refine WPl.inv (fun n fr h' => h' = h ∧ ∃ k, k ≤ l.length ∧ n = l.length - k ∧ l.take k = m.take k ∧ fr = [(0, some (.s v)), (1, some (.s w)), (5, some (.s (.int .i64 k)))]) ?_ _ _ _ ⟨rfl, 0, Nat.zero_le _, rfl, by simp, by simp⟩
    rintro n fr h' ⟨rfl, k, hk, rfl, ht, rfl⟩
    refine ⟨by simp [keepF, fget], ?_⟩
    have rl := r.len
    have ql := q.len
    by_cases hlt : k < l.length
    · obtain ⟨i, p, o, ob, vs, rfl, q2, q3, q4⟩ := r.int hlt
      obtain ⟨i', p', o', ob', vs', rfl, u2, u3, u4⟩ := q.int (k := k) (by omega)
      have hlt' : k < m.length := by omega
      have w3 : IntKind.i64.wrap ((k : Int) + 1) = ((k + 1 : Nat) : Int) := wrap_small (by omega) (by omega)
      by_cases hv : l[k] = m[k]
      · have hv' : (l[k] != m[k]) = false := by simp [hv]
        simp [wpk_skip, wpk_seq, k_cond, wpk_block, wpk_exit, wpk_ret, wpk_loop, k_ops, k_draw0, t_nil, t_cons, KT_eq, KD_eq, wpo_nil, k_cons, k_step, mt_some, mtk_some, KO_eq, KP_eq, K_normal, K_ret, K_exit, KB_normal, KB_ret, KB_exit, KL_normal, KL_ret, KL_exit, k_ret, k_normal, stepE, isCall, calleeE, opE, wantE, odE, odS, odL, odSL, fget, fput, initE, keepF, List.map_cons, List.map_nil, binE, intOp, strOp, shOp, unE, eqpE, eqnE, neqB, ressE, resE, packL, packE, flat1, fcells, fillE, setL, cellsOf_bind, cellsO_own, cellsO_ro, lenE_sl, lenE_nils, lenE_sl0, bound, rep, minE, maxE, List.getElem?_cons_zero, List.getElem?_cons_succ, get_lt, set_lt, get_len, get_len_add, set_len, set_len_add, List.append_assoc, List.cons_append, List.nil_append, -getElem?_pos, l20_0_1, l20_0, hlt, hlt', q2, q3, q4, u2, u3, u4, hv', w3]
        exact ⟨_, by omega, k + 1, hlt, rfl, by rw [List.take_succ_eq_append_getElem hlt, List.take_succ_eq_append_getElem hlt', ht, hv], rfl⟩
      · have hv' : (l[k] != m[k]) = true := by simp [hv]
        have hne : l ≠ m := fun e => hv (by subst e; rfl)
        simp [wpk_skip, wpk_seq, k_cond, wpk_block, wpk_exit, wpk_ret, wpk_loop, k_ops, k_draw0, t_nil, t_cons, KT_eq, KD_eq, wpo_nil, k_cons, k_step, mt_some, mtk_some, KO_eq, KP_eq, K_normal, K_ret, K_exit, KB_normal, KB_ret, KB_exit, KL_normal, KL_ret, KL_exit, k_ret, k_normal, stepE, isCall, calleeE, opE, wantE, odE, odS, odL, odSL, fget, fput, initE, keepF, List.map_cons, List.map_nil, binE, intOp, strOp, shOp, unE, eqpE, eqnE, neqB, ressE, resE, packL, packE, flat1, fcells, fillE, setL, cellsOf_bind, cellsO_own, cellsO_ro, lenE_sl, lenE_nils, lenE_sl0, bound, rep, minE, maxE, List.getElem?_cons_zero, List.getElem?_cons_succ, get_lt, set_lt, get_len, get_len_add, set_len, set_len_add, List.append_assoc, List.cons_append, List.nil_append, -getElem?_pos, l20_0_1, l20_0, hlt, hlt', q2, q3, q4, u2, u3, u4, hv', w3, hne]
    · obtain rfl : k = l.length := by omega
      have he : l = m := by rw [List.take_length, List.take_of_length_le (by omega)] at ht; exact ht
      simp [wpk_skip, wpk_seq, k_cond, wpk_block, wpk_exit, wpk_ret, wpk_loop, k_ops, k_draw0, t_nil, t_cons, KT_eq, KD_eq, wpo_nil, k_cons, k_step, mt_some, mtk_some, KO_eq, KP_eq, K_normal, K_ret, K_exit, KB_normal, KB_ret, KB_exit, KL_normal, KL_ret, KL_exit, k_ret, k_normal, stepE, isCall, calleeE, opE, wantE, odE, odS, odL, odSL, fget, fput, initE, keepF, List.map_cons, List.map_nil, binE, intOp, strOp, shOp, unE, eqpE, eqnE, neqB, ressE, resE, packL, packE, flat1, fcells, fillE, setL, cellsOf_bind, cellsO_own, cellsO_ro, lenE_sl, lenE_nils, lenE_sl0, bound, rep, minE, maxE, List.getElem?_cons_zero, List.getElem?_cons_succ, get_lt, set_lt, get_len, get_len_add, set_len, set_len_add, List.append_assoc, List.cons_append, List.nil_append, -getElem?_pos, l20_0_1, l20_0, hlt, rl, he]
  · have hlen' : ((l.length : Int) != m.length) = true := by simp; omega
    have hne : l ≠ m := fun e => hlen (by rw [e])
    simp [wpk_skip, wpk_seq, k_cond, wpk_block, wpk_exit, wpk_ret, wpk_loop, k_ops, k_draw0, t_nil, t_cons, KT_eq, KD_eq, wpo_nil, k_cons, k_step, mt_some, mtk_some, KO_eq, KP_eq, K_normal, K_ret, K_exit, KB_normal, KB_ret, KB_exit, KL_normal, KL_ret, KL_exit, k_ret, k_normal, stepE, isCall, calleeE, opE, wantE, odE, odS, odL, odSL, fget, fput, initE, keepF, List.map_cons, List.map_nil, binE, intOp, strOp, shOp, unE, eqpE, eqnE, neqB, ressE, resE, packL, packE, flat1, fcells, fillE, setL, cellsOf_bind, cellsO_own, cellsO_ro, lenE_sl, lenE_nils, lenE_sl0, bound, rep, minE, maxE, List.getElem?_cons_zero, List.getElem?_cons_succ, get_lt, set_lt, get_len, get_len_add, set_len, set_len_add, List.append_assoc, List.cons_append, List.nil_append, -getElem?_pos, b20, s20_3, s20_2, s20_1, r.len, q.len, hlen', hne]
end Go.Proofs.Ytfnihfcdoibleaa.Ev.CU
