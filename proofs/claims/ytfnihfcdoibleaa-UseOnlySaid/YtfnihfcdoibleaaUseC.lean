/- Losses of the document: what is left, one more, many. -/
import Derived.Test.YtfnihfcdoibleaaUseB
set_option linter.unusedSimpArgs false
set_option linter.unusedVariables false
namespace Go.Proofs.Ytfnihfcdoibleaa.Ev.CU
open Go

theorem left_ok {h : LH} {i : Nat} {v : SV} {l : List Vi} (hi : h[i]? = some (.own 25 [v])) (r : Rd h 37 3 encV v l) (g : Good l) : WPc C 73 [.s (.ptr i 0)] h fun u h' => Gr h h' ∧ u = .s (.int .i64 (lefts l).sum) := by
  refine WPc.intro (e := e73) rfl (by simp [e73]) ?_
  show WPk C b73 _ _ (KR [.tmp 2] _)
  have hl := g.len
  have hll : (lefts l).length = l.length := by simp [lefts]
  simp [wpk_skip, wpk_seq, k_cond, wpk_block, wpk_exit, wpk_ret, wpk_loop, k_ops, k_draw0, t_nil, t_cons, KT_eq, KD_eq, wpo_nil, k_cons, k_step, mt_some, mtk_some, KO_eq, KP_eq, K_normal, K_ret, K_exit, KB_normal, KB_ret, KB_exit, KL_normal, KL_ret, KL_exit, k_ret, k_normal, stepE, isCall, calleeE, opE, wantE, odE, odS, odL, odSL, fget, fput, initE, keepF, List.map_cons, List.map_nil, binE, intOp, strOp, shOp, unE, eqpE, eqnE, neqB, ressE, resE, packL, packE, flat1, fcells, fillE, setL, cellsOf_bind, cellsO_own, cellsO_ro, lenE_sl, lenE_nils, lenE_sl0, bound, rep, minE, maxE, List.getElem?_cons_zero, List.getElem?_cons_succ, get_lt, set_lt, get_len, get_len_add, set_len, set_len_add, List.append_assoc, List.cons_append, List.nil_append, -getElem?_pos, b73, s73_3, s73_2, s73_1, r.len, hi]
  refine WPl.inv (fun n fr h' => Gr h h' ∧ ∃ k, k ≤ l.length ∧ n = l.length - k ∧ fr = [(3, some (.s (.int .i64 ((lefts l).take k).sum))), (9, some (.s v)), (10, some (.s (.int .i64 l.length))), (11, some (.s (.int .i64 k)))]) ?_ _ _ _ ⟨Gr.refl h, 0, Nat.zero_le _, rfl, by simp⟩
  rintro n fr h' ⟨gr, k, hk, rfl, rfl⟩
  refine ⟨by simp [keepF, fget], ?_⟩
  by_cases hlt : k < l.length
  · obtain ⟨j, p, o, ob, vs, rfl, q2, q3, q4, q5, -⟩ := (r.gr gr).at encV_len hlt
    have hs := sum_take_succ (lefts l) (k := k) (by omega)
    have e : (lefts l)[k]'(by omega) = l[k].l := by simp [lefts]
    have b1 := sum_take_le (lefts_nonneg g.pos) k
    have b2 := sum_take_le (lefts_nonneg g.pos) (k + 1)
    have b3 := g.sum
    rw [e] at hs
    have w2 : IntKind.i64.wrap (((lefts l).take k).sum + l[k].l) = ((lefts l).take (k + 1)).sum := by rw [hs]; exact wrap_small (by omega) (by omega)
    have w3 : IntKind.i64.wrap ((k : Int) + 1) = ((k + 1 : Nat) : Int) := wrap_small (by omega) (by omega)
    simp only [encV] at q5
    have q6 := lt_of_some q2
    simp [wpk_skip, wpk_seq, k_cond, wpk_block, wpk_exit, wpk_ret, wpk_loop, k_ops, k_draw0, t_nil, t_cons, KT_eq, KD_eq, wpo_nil, k_cons, k_step, mt_some, mtk_some, KO_eq, KP_eq, K_normal, K_ret, K_exit, KB_normal, KB_ret, KB_exit, KL_normal, KL_ret, KL_exit, k_ret, k_normal, stepE, isCall, calleeE, opE, wantE, odE, odS, odL, odSL, fget, fput, initE, keepF, List.map_cons, List.map_nil, binE, intOp, strOp, shOp, unE, eqpE, eqnE, neqB, ressE, resE, packL, packE, flat1, fcells, fillE, setL, cellsOf_bind, cellsO_own, cellsO_ro, lenE_sl, lenE_nils, lenE_sl0, bound, rep, minE, maxE, List.getElem?_cons_zero, List.getElem?_cons_succ, get_lt, set_lt, get_len, get_len_add, set_len, set_len_add, List.append_assoc, List.cons_append, List.nil_append, -getElem?_pos, l73_0_2, l73_0_1, l73_0, hlt, q2, q3, q4, q5, q6, w2, w3]
    exact ⟨_, by omega, gr.app _, k + 1, hlt, rfl, rfl, rfl⟩
  · obtain rfl : k = l.length := by omega
    have e : (lefts l).take l.length = lefts l := by rw [← hll, List.take_length]
    simp [wpk_skip, wpk_seq, k_cond, wpk_block, wpk_exit, wpk_ret, wpk_loop, k_ops, k_draw0, t_nil, t_cons, KT_eq, KD_eq, wpo_nil, k_cons, k_step, mt_some, mtk_some, KO_eq, KP_eq, K_normal, K_ret, K_exit, KB_normal, KB_ret, KB_exit, KL_normal, KL_ret, KL_exit, k_ret, k_normal, stepE, isCall, calleeE, opE, wantE, odE, odS, odL, odSL, fget, fput, initE, keepF, List.map_cons, List.map_nil, binE, intOp, strOp, shOp, unE, eqpE, eqnE, neqB, ressE, resE, packL, packE, flat1, fcells, fillE, setL, cellsOf_bind, cellsO_own, cellsO_ro, lenE_sl, lenE_nils, lenE_sl0, bound, rep, minE, maxE, List.getElem?_cons_zero, List.getElem?_cons_succ, get_lt, set_lt, get_len, get_len_add, set_len, set_len_add, List.append_assoc, List.cons_append, List.nil_append, -getElem?_pos, l73_0_2, l73_0_1, l73_0, hlt, e]
    exact gr

def stepA (o e n : Int) (s : List Vi × Bool) (v : Vi) : List Vi × Bool :=
  if v.o = o ∧ v.e = e then (s.1 ++ [⟨v.o, v.e, v.l + n⟩], true)
  else if s.2 = false ∧ (v.e > e ∨ v.e = e ∧ v.o > o) then (s.1 ++ [⟨o, e, n⟩, v], true) else (s.1 ++ [v], s.2)
def ins (o e n : Int) : List Vi → List Vi
  | [] => [⟨o, e, n⟩]
  | v :: r => if v.o = o ∧ v.e = e then ⟨v.o, v.e, v.l + n⟩ :: r else if v.e > e ∨ v.e = e ∧ v.o > o then ⟨o, e, n⟩ :: v :: r else v :: ins o e n r
def Srt (l : List Vi) : Prop := l.Pairwise fun a b => a.e < b.e ∨ a.e = b.e ∧ a.o < b.o
def addF (o e n : Int) (l : List Vi) : List Vi := if (l.foldl (stepA o e n) ([], false)).2 then (l.foldl (stepA o e n) ([], false)).1 else (l.foldl (stepA o e n) ([], false)).1 ++ [⟨o, e, n⟩]

theorem fold_true (o e n : Int) : ∀ (r acc : List Vi), (∀ v ∈ r, ¬ (v.o = o ∧ v.e = e)) → r.foldl (stepA o e n) (acc, true) = (acc ++ r, true)
  | [], acc, _ => by simp
  | v :: r, acc, h => by
    rw [List.foldl_cons]
    have : stepA o e n (acc, true) v = (acc ++ [v], true) := by
      unfold stepA
      rw [if_neg (h v List.mem_cons_self)]; simp
    rw [this, fold_true o e n r _ fun x hx => h x (List.mem_cons_of_mem _ hx)]; simp
theorem fold_false (o e n : Int) : ∀ (l acc : List Vi), Srt l → (if (l.foldl (stepA o e n) (acc, false)).2 then (l.foldl (stepA o e n) (acc, false)).1 else (l.foldl (stepA o e n) (acc, false)).1 ++ [⟨o, e, n⟩]) = acc ++ ins o e n l
  | [], acc, _ => by simp [ins]
  | v :: r, acc, h => by
    obtain ⟨h1, h2⟩ := List.pairwise_cons.1 h
    rw [List.foldl_cons]
    by_cases c : v.o = o ∧ v.e = e
    · have : stepA o e n (acc, false) v = (acc ++ [⟨v.o, v.e, v.l + n⟩], true) := by unfold stepA; rw [if_pos c]
      rw [this, fold_true o e n r _ fun x hx => by have := h1 x hx; omega]
      simp [ins, c]
    · by_cases d : v.e > e ∨ v.e = e ∧ v.o > o
      · have : stepA o e n (acc, false) v = (acc ++ [⟨o, e, n⟩, v], true) := by unfold stepA; rw [if_neg c, if_pos ⟨rfl, d⟩]
        rw [this, fold_true o e n r _ fun x hx => by have := h1 x hx; omega]
        simp [ins, c, d]
      · have : stepA o e n (acc, false) v = (acc ++ [v], false) := by unfold stepA; rw [if_neg c, if_neg (fun x => d x.2)]
        rw [this, fold_false o e n r _ h2]
        simp [ins, c, d]
theorem addF_ins {o e n : Int} {l : List Vi} (h : Srt l) : addF o e n l = ins o e n l := by
  have := fold_false o e n l [] h
  simpa [addF] using this
theorem ins_mem {o e n : Int} : ∀ {l : List Vi} {x : Vi}, x ∈ ins o e n l → (x.o = o ∧ x.e = e) ∨ x ∈ l
  | [], x, h => by simp [ins] at h; subst h; exact .inl ⟨rfl, rfl⟩
  | v :: r, x, h => by
    unfold ins at h
    split at h
    · rename_i c
      rcases List.mem_cons.1 h with rfl | h
      · exact .inl c
      · exact .inr (List.mem_cons_of_mem _ h)
    · split at h
      · rcases List.mem_cons.1 h with rfl | h
        · exact .inl ⟨rfl, rfl⟩
        · exact .inr h
      · rcases List.mem_cons.1 h with rfl | h
        · exact .inr List.mem_cons_self
        · exact (ins_mem h).imp id (List.mem_cons_of_mem _)
theorem ins_srt {o e n : Int} : ∀ {l : List Vi}, Srt l → Srt (ins o e n l)
  | [], _ => by simp [ins, Srt]
  | v :: r, h => by
    obtain ⟨h1, h2⟩ := List.pairwise_cons.1 h
    unfold ins
    split
    · exact List.pairwise_cons.2 ⟨h1, h2⟩
    · rename_i c
      split
      · rename_i d
        refine List.pairwise_cons.2 ⟨fun x hx => ?_, h⟩
        rcases List.mem_cons.1 hx with rfl | hx
        · simp only; omega
        · have := h1 x hx; simp only; omega
      · rename_i d
        refine List.pairwise_cons.2 ⟨fun x hx => ?_, ins_srt h2⟩
        rcases ins_mem hx with hx | hx
        · omega
        · exact h1 x hx
theorem ins_sum {o e n : Int} : ∀ (l : List Vi), (lefts (ins o e n l)).sum = (lefts l).sum + n
  | [] => by simp [ins, lefts]
  | v :: r => by
    have ih := ins_sum (o := o) (e := e) (n := n) r
    unfold lefts at ih ⊢
    unfold ins
    split
    · simp; omega
    · split
      · simp; omega
      · simp; omega
theorem ins_pos {o e n : Int} (hn : 1 ≤ n) : ∀ {l : List Vi}, (∀ v ∈ l, 1 ≤ v.l) → ∀ v ∈ ins o e n l, 1 ≤ v.l
  | [], _, v, hv => by simp [ins] at hv; subst hv; exact hn
  | w :: r, h, v, hv => by
    have hw := h w List.mem_cons_self
    unfold ins at hv
    split at hv
    · rcases List.mem_cons.1 hv with rfl | hv
      · simp only; omega
      · exact h v (List.mem_cons_of_mem _ hv)
    · split at hv
      · rcases List.mem_cons.1 hv with rfl | hv
        · exact hn
        · exact h v hv
      · rcases List.mem_cons.1 hv with rfl | hv
        · exact hw
        · exact ins_pos hn (fun x hx => h x (List.mem_cons_of_mem _ hx)) v hv
theorem ins_len {o e n : Int} : ∀ (l : List Vi), (ins o e n l).length ≤ l.length + 1
  | [] => by simp [ins]
  | v :: r => by
    have := ins_len (o := o) (e := e) (n := n) r
    unfold ins
    split
    · simp
    · split
      · simp
      · simp; omega
theorem step_len (o e n : Int) (s : List Vi × Bool) (v : Vi) : (stepA o e n s v).1.length + (if (stepA o e n s v).2 then 0 else 1) ≤ s.1.length + (if s.2 then 0 else 1) + 1 := by
  unfold stepA
  split
  · simp
  · split
    · rename_i h; simp [h.1]
    · simp; omega
theorem fold_len (o e n : Int) : ∀ (l : List Vi) (s : List Vi × Bool), (l.foldl (stepA o e n) s).1.length ≤ s.1.length + (if s.2 then 0 else 1) + l.length
  | [], s => by simp
  | v :: r, s => by
    have a := fold_len o e n r (stepA o e n s v)
    have b := step_len o e n s v
    rw [List.foldl_cons, List.length_cons]
    omega

theorem add_ok {h : LH} {i : Nat} {v : SV} {l : List Vi} (hi : h[i]? = some (.own 25 [v])) (r : Rd h 37 3 encV v l) (g : Good l) (hs : Srt l) {o e n : Int} (ho : 0 ≤ o ∧ o ≤ 99) (he : o ≤ e ∧ e ≤ 198) (hn : 1 ≤ n) (hn' : is64 n) :
    WPc C 52 [.s (.ptr i 0), .s (.int .i64 o), .s (.int .i64 e), .s (.int .i64 n)] h fun u h' => GrBut i h h' ∧ ∃ w l', h'[i]? = some (.own 25 [w]) ∧ Rd h' 37 3 encV w l' ∧ Good l' ∧ Srt l' := by
  refine WPc.post fun Ψ hΨ => ?_
  refine WPc.intro (e := e52) rfl (by simp [e52]) ?_
  show WPk C b52 _ _ (KR [.tmp 8] _)
  have hn0 := hn'
  unfold is64 at hn0
  have hl := g.len
  have c1 : ¬ e < o := by omega
  have c2 : ¬ 198 < e := by omega
  have c3 : ¬ n < 1 := by omega
  have c4 : ¬ 99 < o := by omega
  by_cases c5 : n > 100000000000
  · simp [wpk_skip, wpk_seq, k_cond, wpk_block, wpk_exit, wpk_ret, wpk_loop, k_ops, k_draw0, t_nil, t_cons, KT_eq, KD_eq, wpo_nil, k_cons, k_step, mt_some, mtk_some, KO_eq, KP_eq, K_normal, K_ret, K_exit, KB_normal, KB_ret, KB_exit, KL_normal, KL_ret, KL_exit, k_ret, k_normal, stepE, isCall, calleeE, opE, wantE, odE, odS, odL, odSL, fget, fput, initE, keepF, List.map_cons, List.map_nil, binE, intOp, strOp, shOp, unE, eqpE, eqnE, neqB, ressE, resE, packL, packE, flat1, fcells, fillE, setL, cellsOf_bind, cellsO_own, cellsO_ro, lenE_sl, lenE_nils, lenE_sl0, bound, rep, minE, maxE, List.getElem?_cons_zero, List.getElem?_cons_succ, get_lt, set_lt, get_len, get_len_add, set_len, set_len_add, List.append_assoc, List.cons_append, List.nil_append, -getElem?_pos, b52, s52_9, s52_8, s52_7, s52_6, s52_5, s52_4, s52_3, s52_2, s52_1, year_ok, ho, c1, c2, c3, c5]
    exact hΨ _ _ ⟨(Gr.refl h).but i, v, l, hi, r, g, hs⟩
  have hi' := lt_of_some hi
  simp [wpk_skip, wpk_seq, k_cond, wpk_block, wpk_exit, wpk_ret, wpk_loop, k_ops, k_draw0, t_nil, t_cons, KT_eq, KD_eq, wpo_nil, k_cons, k_step, mt_some, mtk_some, KO_eq, KP_eq, K_normal, K_ret, K_exit, KB_normal, KB_ret, KB_exit, KL_normal, KL_ret, KL_exit, k_ret, k_normal, stepE, isCall, calleeE, opE, wantE, odE, odS, odL, odSL, fget, fput, initE, keepF, List.map_cons, List.map_nil, binE, intOp, strOp, shOp, unE, eqpE, eqnE, neqB, ressE, resE, packL, packE, flat1, fcells, fillE, setL, cellsOf_bind, cellsO_own, cellsO_ro, lenE_sl, lenE_nils, lenE_sl0, bound, rep, minE, maxE, List.getElem?_cons_zero, List.getElem?_cons_succ, get_lt, set_lt, get_len, get_len_add, set_len, set_len_add, List.append_assoc, List.cons_append, List.nil_append, -getElem?_pos, b52, s52_9, s52_8, s52_7, s52_6, s52_5, s52_4, s52_3, s52_2, s52_1, year_ok, ho, c1, c2, c3, c5]
  refine WPc.go (left_ok hi r g) ?_
  rintro _ h1 ⟨g1, rfl⟩
  have b1 := sum_take_le (lefts_nonneg g.pos) l.length
  have hll : (lefts l).take l.length = lefts l := by rw [show l.length = (lefts l).length by simp [lefts], List.take_length]
  rw [hll] at b1
  have b2 := g.sum
  have w1 : IntKind.i64.wrap ((lefts l).sum + n) = (lefts l).sum + n := wrap_small (by omega) (by omega)
  have hi1 := g1.get hi
  have r1 := r.gr g1
  by_cases c6 : (lefts l).sum + n > 100000000000
  · simp [wpk_skip, wpk_seq, k_cond, wpk_block, wpk_exit, wpk_ret, wpk_loop, k_ops, k_draw0, t_nil, t_cons, KT_eq, KD_eq, wpo_nil, k_cons, k_step, mt_some, mtk_some, KO_eq, KP_eq, K_normal, K_ret, K_exit, KB_normal, KB_ret, KB_exit, KL_normal, KL_ret, KL_exit, k_ret, k_normal, stepE, isCall, calleeE, opE, wantE, odE, odS, odL, odSL, fget, fput, initE, keepF, List.map_cons, List.map_nil, binE, intOp, strOp, shOp, unE, eqpE, eqnE, neqB, ressE, resE, packL, packE, flat1, fcells, fillE, setL, cellsOf_bind, cellsO_own, cellsO_ro, lenE_sl, lenE_nils, lenE_sl0, bound, rep, minE, maxE, List.getElem?_cons_zero, List.getElem?_cons_succ, get_lt, set_lt, get_len, get_len_add, set_len, set_len_add, List.append_assoc, List.cons_append, List.nil_append, -getElem?_pos, w1, c6]
    exact hΨ _ _ ⟨g1.but i, v, l, hi1, r1, g, hs⟩
  simp [wpk_skip, wpk_seq, k_cond, wpk_block, wpk_exit, wpk_ret, wpk_loop, k_ops, k_draw0, t_nil, t_cons, KT_eq, KD_eq, wpo_nil, k_cons, k_step, mt_some, mtk_some, KO_eq, KP_eq, K_normal, K_ret, K_exit, KB_normal, KB_ret, KB_exit, KL_normal, KL_ret, KL_exit, k_ret, k_normal, stepE, isCall, calleeE, opE, wantE, odE, odS, odL, odSL, fget, fput, initE, keepF, List.map_cons, List.map_nil, binE, intOp, strOp, shOp, unE, eqpE, eqnE, neqB, ressE, resE, packL, packE, flat1, fcells, fillE, setL, cellsOf_bind, cellsO_own, cellsO_ro, lenE_sl, lenE_nils, lenE_sl0, bound, rep, minE, maxE, List.getElem?_cons_zero, List.getElem?_cons_succ, get_lt, set_lt, get_len, get_len_add, set_len, set_len_add, List.append_assoc, List.cons_append, List.nil_append, -getElem?_pos, w1, c6, hi1, r1.len]
  refine WPl.post (fun x fr' h' => x = .exit 0 ∧ Gr h h' ∧ ∃ w, fr' = [(0, some (.s (.ptr i 0))), (1, some (.s (.int .i64 o))), (2, some (.s (.int .i64 e))), (3, some (.s (.int .i64 n))), (9, some (.s w)), (10, some (.s (.bool (l.foldl (stepA o e n) ([], false)).2)))] ∧ Ow h.length h' 37 encV w (l.foldl (stepA o e n) ([], false)).1) (fun Φ hΦ => ?_) ?_
  · refine WPl.inv2 (fun m fr h' => Gr h h' ∧ ∃ k w, k ≤ l.length ∧ m = l.length - k ∧ Ow h.length h' 37 encV w ((l.take k).foldl (stepA o e n) ([], false)).1 ∧
      fr = [(0, some (.s (.ptr i 0))), (1, some (.s (.int .i64 o))), (2, some (.s (.int .i64 e))), (3, some (.s (.int .i64 n))), (9, some (.s w)), (10, some (.s (.bool ((l.take k).foldl (stepA o e n) ([], false)).2))), (41, some (.s v)), (42, some (.s (.int .i64 l.length))), (43, some (.s (.int .i64 k)))]) ?_ _ _ _ ⟨g1, 0, .nils, Nat.zero_le _, rfl, Ow.nil _ _, by simp⟩
    rintro I hI m fr h' ⟨gr, k, w, hk, rfl, ow, rfl⟩
    refine ⟨by simp [keepF, fget], ?_⟩
    by_cases hlt : k < l.length
    · have hf : (l.take (k + 1)).foldl (stepA o e n) ([], false) = stepA o e n ((l.take k).foldl (stepA o e n) ([], false)) l[k] := by rw [List.take_succ_eq_append_getElem hlt, List.foldl_append]; rfl
      have hfl := fold_len o e n (l.take k) ([], false)
      simp only [List.length_nil, Bool.false_eq_true, if_false, Nat.zero_add, List.length_take] at hfl
      generalize (l.take k).foldl (stepA o e n) ([], false) = s at hf hfl ow
      obtain ⟨acc, d⟩ := s
      simp only at ow hfl
      obtain ⟨j, p, q, ob, vs, rfl, q2, q3, q4, q5, -⟩ := (r.gr gr).at encV_len hlt
      have q6 := lt_of_some q2
      simp only [encV] at q5
      have hb := g.bound hlt
      have w2 : IntKind.i64.wrap (l[k].l + n) = l[k].l + n := wrap_small (by omega) (by omega)
      have w3 : IntKind.i64.wrap ((k : Int) + 1) = ((k + 1 : Nat) : Int) := wrap_small (by omega) (by omega)
      have hA := ow.app1 (y := 24) encV_len (by omega)
      have hK := ow.kill_new0
      have one : ∀ d', stepA o e n (acc, d) l[k] = (acc ++ [l[k]], d') → ∃ m, m < l.length - k ∧ I m [(0, some (.s (.ptr i 0))), (1, some (.s (.int .i64 o))), (2, some (.s (.int .i64 e))), (3, some (.s (.int .i64 n))), (9, some (.s (.sl (h'.length + 2) 0 0 (acc.length + 1)))), (10, some (.s (.bool d'))), (41, some (.s (.sl j p q l.length))), (42, some (.s (.int .i64 l.length))), (43, some (.s (.int .i64 ((k : Int) + 1))))]
          (kill w (h' ++ [LO.own 37 [.int .i64 l[k].o, .int .i64 l[k].e, .int .i64 l[k].l], LO.own 37 [.int .i64 l[k].o, .int .i64 l[k].e, .int .i64 l[k].l]]) ++ [LO.own 37 (acc.flatMap encV ++ [.int .i64 l[k].o, .int .i64 l[k].e, .int .i64 l[k].l])]) := by
        intro d' hf'
        rw [hf'] at hf
        obtain ⟨f1, f2⟩ := Ow.step gr ow l[k] [LO.own 37 [.int .i64 l[k].o, .int .i64 l[k].e, .int .i64 l[k].l], LO.own 37 [.int .i64 l[k].o, .int .i64 l[k].e, .int .i64 l[k].l]] (m := 2) rfl rfl rfl
        exact ⟨_, by omega, hI _ _ _ ⟨f1, k + 1, _, hlt, rfl, by rw [hf]; exact f2, by rw [hf]; rfl⟩⟩
      by_cases d1 : l[k].o = o ∧ l[k].e = e
      · have e1 : (l[k].o == o) = true := by simp [d1.1]
        have e2 : (l[k].e == e) = true := by simp [d1.2]
        have hf' : stepA o e n (acc, d) l[k] = (acc ++ [⟨l[k].o, l[k].e, l[k].l + n⟩], true) := by unfold stepA; rw [if_pos d1]
        rw [hf'] at hf
        simp [wpk_skip, wpk_seq, k_cond, wpk_block, wpk_exit, wpk_ret, wpk_loop, k_ops, k_draw0, t_nil, t_cons, KT_eq, KD_eq, wpo_nil, k_cons, k_step, mt_some, mtk_some, KO_eq, KP_eq, K_normal, K_ret, K_exit, KB_normal, KB_ret, KB_exit, KL_normal, KL_ret, KL_exit, k_ret, k_normal, stepE, isCall, calleeE, opE, wantE, odE, odS, odL, odSL, fget, fput, initE, keepF, List.map_cons, List.map_nil, binE, intOp, strOp, shOp, unE, eqpE, eqnE, neqB, ressE, resE, packL, packE, flat1, fcells, fillE, setL, cellsOf_bind, cellsO_own, cellsO_ro, lenE_sl, lenE_nils, lenE_sl0, bound, rep, minE, maxE, List.getElem?_cons_zero, List.getElem?_cons_succ, get_lt, set_lt, get_len, get_len_add, set_len, set_len_add, List.append_assoc, List.cons_append, List.nil_append, -getElem?_pos, l52_0_2, l52_0_1, l52_0, hlt, q2, q3, q4, q5, q6, w2, w3, e1, e2, elems, hA]
        obtain ⟨f1, f2⟩ := Ow.step gr ow ⟨l[k].o, l[k].e, l[k].l + n⟩ [LO.own 37 [.int .i64 l[k].o, .int .i64 l[k].e, .int .i64 (l[k].l + n)], LO.own 37 [.int .i64 l[k].o, .int .i64 l[k].e, .int .i64 (l[k].l + n)]] (m := 2) rfl rfl rfl
        exact ⟨_, by omega, hI _ _ _ ⟨f1, k + 1, _, hlt, rfl, by rw [hf]; exact f2, by rw [hf]; rfl⟩⟩
      · have e0 : (l[k].o == o) = false ∨ ((l[k].o == o) = true ∧ (l[k].e == e) = false) := by
          by_cases x : l[k].o = o
          · exact .inr ⟨by simp [x], by simp; exact fun y => d1 ⟨x, y⟩⟩
          · exact .inl (by simp [x])
        cases d with
        | true =>
          have hf' : stepA o e n (acc, true) l[k] = (acc ++ [l[k]], true) := by unfold stepA; rw [if_neg d1]; simp
          have fin := one _ hf'
          rcases e0 with e1 | ⟨e1, e2⟩
          · simp [wpk_skip, wpk_seq, k_cond, wpk_block, wpk_exit, wpk_ret, wpk_loop, k_ops, k_draw0, t_nil, t_cons, KT_eq, KD_eq, wpo_nil, k_cons, k_step, mt_some, mtk_some, KO_eq, KP_eq, K_normal, K_ret, K_exit, KB_normal, KB_ret, KB_exit, KL_normal, KL_ret, KL_exit, k_ret, k_normal, stepE, isCall, calleeE, opE, wantE, odE, odS, odL, odSL, fget, fput, initE, keepF, List.map_cons, List.map_nil, binE, intOp, strOp, shOp, unE, eqpE, eqnE, neqB, ressE, resE, packL, packE, flat1, fcells, fillE, setL, cellsOf_bind, cellsO_own, cellsO_ro, lenE_sl, lenE_nils, lenE_sl0, bound, rep, minE, maxE, List.getElem?_cons_zero, List.getElem?_cons_succ, get_lt, set_lt, get_len, get_len_add, set_len, set_len_add, List.append_assoc, List.cons_append, List.nil_append, -getElem?_pos, l52_0_2, l52_0_1, l52_0, hlt, q2, q3, q4, q5, q6, w3, e1, elems, hA]
            exact fin
          · simp [wpk_skip, wpk_seq, k_cond, wpk_block, wpk_exit, wpk_ret, wpk_loop, k_ops, k_draw0, t_nil, t_cons, KT_eq, KD_eq, wpo_nil, k_cons, k_step, mt_some, mtk_some, KO_eq, KP_eq, K_normal, K_ret, K_exit, KB_normal, KB_ret, KB_exit, KL_normal, KL_ret, KL_exit, k_ret, k_normal, stepE, isCall, calleeE, opE, wantE, odE, odS, odL, odSL, fget, fput, initE, keepF, List.map_cons, List.map_nil, binE, intOp, strOp, shOp, unE, eqpE, eqnE, neqB, ressE, resE, packL, packE, flat1, fcells, fillE, setL, cellsOf_bind, cellsO_own, cellsO_ro, lenE_sl, lenE_nils, lenE_sl0, bound, rep, minE, maxE, List.getElem?_cons_zero, List.getElem?_cons_succ, get_lt, set_lt, get_len, get_len_add, set_len, set_len_add, List.append_assoc, List.cons_append, List.nil_append, -getElem?_pos, l52_0_2, l52_0_1, l52_0, hlt, q2, q3, q4, q5, q6, w3, e1, e2, elems, hA]
            exact fin
        | false =>
          by_cases d2 : l[k].e > e ∨ l[k].e = e ∧ l[k].o > o
          · have hf' : stepA o e n (acc, false) l[k] = (acc ++ [⟨o, e, n⟩, l[k]], true) := by unfold stepA; rw [if_neg d1, if_pos ⟨rfl, d2⟩]
            rw [hf'] at hf
            obtain ⟨f1, f2⟩ := Ow.step gr ow ⟨o, e, n⟩ [LO.own 37 [.int .i64 l[k].o, .int .i64 l[k].e, .int .i64 l[k].l], LO.own 37 [.int .i64 o, .int .i64 e, .int .i64 n]] (cs := [.int .i64 o, .int .i64 e, .int .i64 n]) (m := 2) rfl rfl rfl
            obtain ⟨acc2, hacc2⟩ : ∃ a, a = acc ++ [(⟨o, e, n⟩ : Vi)] := ⟨_, rfl⟩
            have hl2 : acc2.length = acc.length + 1 := by rw [hacc2]; simp
            rw [← hacc2] at f2
            have hA2 := f2.app1 (y := 24) encV_len (by omega)
            obtain ⟨g1', g2'⟩ := Ow.step f1 f2 l[k] [LO.own 37 [.int .i64 l[k].o, .int .i64 l[k].e, .int .i64 l[k].l]] (n := acc2.length + 1) (cs := [.int .i64 l[k].o, .int .i64 l[k].e, .int .i64 l[k].l]) (m := 1) rfl rfl rfl
            simp at hA2 g1' g2'
            have hfin : (l.take (k + 1)).foldl (stepA o e n) ([], false) = (acc2 ++ [l[k]], true) := by rw [hf, hacc2]; simp
            have two := fun fr0 (hfr : fr0 = _) => hI (l.length - (k + 1)) fr0 _ ⟨g1', k + 1, _, hlt, rfl, by rw [hfin]; exact g2', hfr⟩
            rw [hfin] at two
            rcases d2 with d2 | d2
            · rcases e0 with e1 | ⟨e1, e2⟩
              · simp [wpk_skip, wpk_seq, k_cond, wpk_block, wpk_exit, wpk_ret, wpk_loop, k_ops, k_draw0, t_nil, t_cons, KT_eq, KD_eq, wpo_nil, k_cons, k_step, mt_some, mtk_some, KO_eq, KP_eq, K_normal, K_ret, K_exit, KB_normal, KB_ret, KB_exit, KL_normal, KL_ret, KL_exit, k_ret, k_normal, stepE, isCall, calleeE, opE, wantE, odE, odS, odL, odSL, fget, fput, initE, keepF, List.map_cons, List.map_nil, binE, intOp, strOp, shOp, unE, eqpE, eqnE, neqB, ressE, resE, packL, packE, flat1, fcells, fillE, setL, cellsOf_bind, cellsO_own, cellsO_ro, lenE_sl, lenE_nils, lenE_sl0, bound, rep, minE, maxE, List.getElem?_cons_zero, List.getElem?_cons_succ, get_lt, set_lt, get_len, get_len_add, set_len, set_len_add, List.append_assoc, List.cons_append, List.nil_append, -getElem?_pos, l52_0_2, l52_0_1, l52_0, hlt, q2, q3, q4, q5, q6, w3, e1, d2, elems, hA, hA2, hK]
                exact ⟨_, by omega, two _ rfl⟩
              · simp [wpk_skip, wpk_seq, k_cond, wpk_block, wpk_exit, wpk_ret, wpk_loop, k_ops, k_draw0, t_nil, t_cons, KT_eq, KD_eq, wpo_nil, k_cons, k_step, mt_some, mtk_some, KO_eq, KP_eq, K_normal, K_ret, K_exit, KB_normal, KB_ret, KB_exit, KL_normal, KL_ret, KL_exit, k_ret, k_normal, stepE, isCall, calleeE, opE, wantE, odE, odS, odL, odSL, fget, fput, initE, keepF, List.map_cons, List.map_nil, binE, intOp, strOp, shOp, unE, eqpE, eqnE, neqB, ressE, resE, packL, packE, flat1, fcells, fillE, setL, cellsOf_bind, cellsO_own, cellsO_ro, lenE_sl, lenE_nils, lenE_sl0, bound, rep, minE, maxE, List.getElem?_cons_zero, List.getElem?_cons_succ, get_lt, set_lt, get_len, get_len_add, set_len, set_len_add, List.append_assoc, List.cons_append, List.nil_append, -getElem?_pos, l52_0_2, l52_0_1, l52_0, hlt, q2, q3, q4, q5, q6, w3, e1, e2, d2, elems, hA, hA2, hK]
                exact ⟨_, by omega, two _ rfl⟩
            · obtain ⟨d3, d4⟩ := d2
              have e2 : (l[k].e == e) = true := by simp [d3]
              have e3 : ¬ e < l[k].e := by omega
              rcases e0 with e1 | ⟨e1, e4⟩
              · simp [wpk_skip, wpk_seq, k_cond, wpk_block, wpk_exit, wpk_ret, wpk_loop, k_ops, k_draw0, t_nil, t_cons, KT_eq, KD_eq, wpo_nil, k_cons, k_step, mt_some, mtk_some, KO_eq, KP_eq, K_normal, K_ret, K_exit, KB_normal, KB_ret, KB_exit, KL_normal, KL_ret, KL_exit, k_ret, k_normal, stepE, isCall, calleeE, opE, wantE, odE, odS, odL, odSL, fget, fput, initE, keepF, List.map_cons, List.map_nil, binE, intOp, strOp, shOp, unE, eqpE, eqnE, neqB, ressE, resE, packL, packE, flat1, fcells, fillE, setL, cellsOf_bind, cellsO_own, cellsO_ro, lenE_sl, lenE_nils, lenE_sl0, bound, rep, minE, maxE, List.getElem?_cons_zero, List.getElem?_cons_succ, get_lt, set_lt, get_len, get_len_add, set_len, set_len_add, List.append_assoc, List.cons_append, List.nil_append, -getElem?_pos, l52_0_2, l52_0_1, l52_0, hlt, q2, q3, q4, q5, q6, w3, e1, e2, e3, d4, elems, hA, hA2, hK]
                exact ⟨_, by omega, two _ rfl⟩
              · rw [e2] at e4; cases e4
          · have hf' : stepA o e n (acc, false) l[k] = (acc ++ [l[k]], false) := by unfold stepA; rw [if_neg d1, if_neg (fun x => d2 x.2)]
            have fin := one _ hf'
            have e3 : ¬ e < l[k].e := by omega
            by_cases d3 : l[k].e = e
            · have e2 : (l[k].e == e) = true := by simp [d3]
              have e4 : ¬ o < l[k].o := by omega
              rcases e0 with e1 | ⟨e1, e5⟩
              · simp [wpk_skip, wpk_seq, k_cond, wpk_block, wpk_exit, wpk_ret, wpk_loop, k_ops, k_draw0, t_nil, t_cons, KT_eq, KD_eq, wpo_nil, k_cons, k_step, mt_some, mtk_some, KO_eq, KP_eq, K_normal, K_ret, K_exit, KB_normal, KB_ret, KB_exit, KL_normal, KL_ret, KL_exit, k_ret, k_normal, stepE, isCall, calleeE, opE, wantE, odE, odS, odL, odSL, fget, fput, initE, keepF, List.map_cons, List.map_nil, binE, intOp, strOp, shOp, unE, eqpE, eqnE, neqB, ressE, resE, packL, packE, flat1, fcells, fillE, setL, cellsOf_bind, cellsO_own, cellsO_ro, lenE_sl, lenE_nils, lenE_sl0, bound, rep, minE, maxE, List.getElem?_cons_zero, List.getElem?_cons_succ, get_lt, set_lt, get_len, get_len_add, set_len, set_len_add, List.append_assoc, List.cons_append, List.nil_append, -getElem?_pos, l52_0_2, l52_0_1, l52_0, hlt, q2, q3, q4, q5, q6, w3, e1, e2, e3, e4, elems, hA]
                exact fin
              · rw [e2] at e5; cases e5
            · have e2 : (l[k].e == e) = false := by simp [d3]
              rcases e0 with e1 | ⟨e1, e5⟩
              · simp [wpk_skip, wpk_seq, k_cond, wpk_block, wpk_exit, wpk_ret, wpk_loop, k_ops, k_draw0, t_nil, t_cons, KT_eq, KD_eq, wpo_nil, k_cons, k_step, mt_some, mtk_some, KO_eq, KP_eq, K_normal, K_ret, K_exit, KB_normal, KB_ret, KB_exit, KL_normal, KL_ret, KL_exit, k_ret, k_normal, stepE, isCall, calleeE, opE, wantE, odE, odS, odL, odSL, fget, fput, initE, keepF, List.map_cons, List.map_nil, binE, intOp, strOp, shOp, unE, eqpE, eqnE, neqB, ressE, resE, packL, packE, flat1, fcells, fillE, setL, cellsOf_bind, cellsO_own, cellsO_ro, lenE_sl, lenE_nils, lenE_sl0, bound, rep, minE, maxE, List.getElem?_cons_zero, List.getElem?_cons_succ, get_lt, set_lt, get_len, get_len_add, set_len, set_len_add, List.append_assoc, List.cons_append, List.nil_append, -getElem?_pos, l52_0_2, l52_0_1, l52_0, hlt, q2, q3, q4, q5, q6, w3, e1, e2, e3, elems, hA]
                exact fin
              · simp [wpk_skip, wpk_seq, k_cond, wpk_block, wpk_exit, wpk_ret, wpk_loop, k_ops, k_draw0, t_nil, t_cons, KT_eq, KD_eq, wpo_nil, k_cons, k_step, mt_some, mtk_some, KO_eq, KP_eq, K_normal, K_ret, K_exit, KB_normal, KB_ret, KB_exit, KL_normal, KL_ret, KL_exit, k_ret, k_normal, stepE, isCall, calleeE, opE, wantE, odE, odS, odL, odSL, fget, fput, initE, keepF, List.map_cons, List.map_nil, binE, intOp, strOp, shOp, unE, eqpE, eqnE, neqB, ressE, resE, packL, packE, flat1, fcells, fillE, setL, cellsOf_bind, cellsO_own, cellsO_ro, lenE_sl, lenE_nils, lenE_sl0, bound, rep, minE, maxE, List.getElem?_cons_zero, List.getElem?_cons_succ, get_lt, set_lt, get_len, get_len_add, set_len, set_len_add, List.append_assoc, List.cons_append, List.nil_append, -getElem?_pos, l52_0_2, l52_0_1, l52_0, hlt, q2, q3, q4, q5, q6, w3, e1, e2, e3, elems, hA]
                exact fin
    · obtain rfl : k = l.length := by omega
      rw [List.take_length] at ow
      simp [wpk_skip, wpk_seq, k_cond, wpk_block, wpk_exit, wpk_ret, wpk_loop, k_ops, k_draw0, t_nil, t_cons, KT_eq, KD_eq, wpo_nil, k_cons, k_step, mt_some, mtk_some, KO_eq, KP_eq, K_normal, K_ret, K_exit, KB_normal, KB_ret, KB_exit, KL_normal, KL_ret, KL_exit, k_ret, k_normal, stepE, isCall, calleeE, opE, wantE, odE, odS, odL, odSL, fget, fput, initE, keepF, List.map_cons, List.map_nil, binE, intOp, strOp, shOp, unE, eqpE, eqnE, neqB, ressE, resE, packL, packE, flat1, fcells, fillE, setL, cellsOf_bind, cellsO_own, cellsO_ro, lenE_sl, lenE_nils, lenE_sl0, bound, rep, minE, maxE, List.getElem?_cons_zero, List.getElem?_cons_succ, get_lt, set_lt, get_len, get_len_add, set_len, set_len_add, List.append_assoc, List.cons_append, List.nil_append, -getElem?_pos, l52_0_2, l52_0_1, l52_0, hlt]
      exact hΦ _ _ _ ⟨rfl, gr, w, by simp, ow⟩
  · rintro x fr' h2 ⟨rfl, gr, w, rfl, ow⟩
    have hfl := fold_len o e n l ([], false)
    simp only [List.length_nil, Bool.false_eq_true, if_false, Nat.zero_add] at hfl
    have hins := addF_ins (o := o) (e := e) (n := n) hs
    unfold addF at hins
    have hi2 := gr.get hi
    have hi3 := lt_of_some hi2
    have good : (ins o e n l).length ≤ 12 → Good (ins o e n l) := fun hlen => ⟨ins_pos hn g.pos, by rw [ins_sum]; omega, hlen, fun x hx => by
      rcases ins_mem hx with ⟨rfl, rfl⟩ | hx
      · unfold is64; omega
      · exact g.is x hx⟩
    generalize l.foldl (stepA o e n) ([], false) = s at hfl hins ow
    obtain ⟨acc, d⟩ := s
    simp only at hfl hins ow
    have hA := ow.app1 (y := 24) encV_len (by omega)
    cases d with
    | true =>
      simp only [if_true] at hins
      subst hins
      by_cases c7 : 12 < (ins o e n l).length
      · have c7' : (12 : Int) < ((ins o e n l).length : Int) := by omega
        simp [wpk_skip, wpk_seq, k_cond, wpk_block, wpk_exit, wpk_ret, wpk_loop, k_ops, k_draw0, t_nil, t_cons, KT_eq, KD_eq, wpo_nil, k_cons, k_step, mt_some, mtk_some, KO_eq, KP_eq, K_normal, K_ret, K_exit, KB_normal, KB_ret, KB_exit, KL_normal, KL_ret, KL_exit, k_ret, k_normal, stepE, isCall, calleeE, opE, wantE, odE, odS, odL, odSL, fget, fput, initE, keepF, List.map_cons, List.map_nil, binE, intOp, strOp, shOp, unE, eqpE, eqnE, neqB, ressE, resE, packL, packE, flat1, fcells, fillE, setL, cellsOf_bind, cellsO_own, cellsO_ro, lenE_sl, lenE_nils, lenE_sl0, bound, rep, minE, maxE, List.getElem?_cons_zero, List.getElem?_cons_succ, get_lt, set_lt, get_len, get_len_add, set_len, set_len_add, List.append_assoc, List.cons_append, List.nil_append, -getElem?_pos, ow.len, c7']
        exact hΨ _ _ ⟨gr.but i, v, l, hi2, r.gr gr, g, hs⟩
      · have c7' : ¬ (12 : Int) < ((ins o e n l).length : Int) := by omega
        simp [wpk_skip, wpk_seq, k_cond, wpk_block, wpk_exit, wpk_ret, wpk_loop, k_ops, k_draw0, t_nil, t_cons, KT_eq, KD_eq, wpo_nil, k_cons, k_step, mt_some, mtk_some, KO_eq, KP_eq, K_normal, K_ret, K_exit, KB_normal, KB_ret, KB_exit, KL_normal, KL_ret, KL_exit, k_ret, k_normal, stepE, isCall, calleeE, opE, wantE, odE, odS, odL, odSL, fget, fput, initE, keepF, List.map_cons, List.map_nil, binE, intOp, strOp, shOp, unE, eqpE, eqnE, neqB, ressE, resE, packL, packE, flat1, fcells, fillE, setL, cellsOf_bind, cellsO_own, cellsO_ro, lenE_sl, lenE_nils, lenE_sl0, bound, rep, minE, maxE, List.getElem?_cons_zero, List.getElem?_cons_succ, get_lt, set_lt, get_len, get_len_add, set_len, set_len_add, List.append_assoc, List.cons_append, List.nil_append, -getElem?_pos, ow.len, c7', hi2]
        refine hΨ _ _ ⟨GrBut.set gr _, w, ins o e n l, get_self hi3, ?_, good (by omega), ins_srt hs⟩
        exact (ow.set hi' _).rd encV_len
    | false =>
      simp only [Bool.false_eq_true, if_false] at hins
      have hlen : (ins o e n l).length = acc.length + 1 := by rw [← hins]; simp
      obtain ⟨f1, f2⟩ := Ow.step gr ow ⟨o, e, n⟩ [LO.own 37 [.int .i64 o, .int .i64 e, .int .i64 n]] (n := acc.length + 1) (cs := [.int .i64 o, .int .i64 e, .int .i64 n]) (m := 1) rfl rfl rfl
      have k1 : ∀ q, i < (kill w (h2 ++ q)).length := fun q => by rw [kill_len, List.length_append]; omega
      have k2 : ∀ q, (kill w (h2 ++ q))[i]? = some (.own 25 [v]) := fun q => (kill_gr (gr.app q) (ow.gr (Gr.self h2 q))).get hi
      by_cases c7 : 12 < acc.length + 1
      · have c7' : (12 : Int) < (acc.length : Int) + 1 := by omega
        simp [wpk_skip, wpk_seq, k_cond, wpk_block, wpk_exit, wpk_ret, wpk_loop, k_ops, k_draw0, t_nil, t_cons, KT_eq, KD_eq, wpo_nil, k_cons, k_step, mt_some, mtk_some, KO_eq, KP_eq, K_normal, K_ret, K_exit, KB_normal, KB_ret, KB_exit, KL_normal, KL_ret, KL_exit, k_ret, k_normal, stepE, isCall, calleeE, opE, wantE, odE, odS, odL, odSL, fget, fput, initE, keepF, List.map_cons, List.map_nil, binE, intOp, strOp, shOp, unE, eqpE, eqnE, neqB, ressE, resE, packL, packE, flat1, fcells, fillE, setL, cellsOf_bind, cellsO_own, cellsO_ro, lenE_sl, lenE_nils, lenE_sl0, bound, rep, minE, maxE, List.getElem?_cons_zero, List.getElem?_cons_succ, get_lt, set_lt, get_len, get_len_add, set_len, set_len_add, List.append_assoc, List.cons_append, List.nil_append, -getElem?_pos, elems, hA, lenE_sl, c7']
        exact hΨ _ _ ⟨f1.but i, v, l, f1.get hi, r.gr f1, g, hs⟩
      · have c7' : ¬ (12 : Int) < (acc.length : Int) + 1 := by omega
        simp [wpk_skip, wpk_seq, k_cond, wpk_block, wpk_exit, wpk_ret, wpk_loop, k_ops, k_draw0, t_nil, t_cons, KT_eq, KD_eq, wpo_nil, k_cons, k_step, mt_some, mtk_some, KO_eq, KP_eq, K_normal, K_ret, K_exit, KB_normal, KB_ret, KB_exit, KL_normal, KL_ret, KL_exit, k_ret, k_normal, stepE, isCall, calleeE, opE, wantE, odE, odS, odL, odSL, fget, fput, initE, keepF, List.map_cons, List.map_nil, binE, intOp, strOp, shOp, unE, eqpE, eqnE, neqB, ressE, resE, packL, packE, flat1, fcells, fillE, setL, cellsOf_bind, cellsO_own, cellsO_ro, lenE_sl, lenE_nils, lenE_sl0, bound, rep, minE, maxE, List.getElem?_cons_zero, List.getElem?_cons_succ, get_lt, set_lt, get_len, get_len_add, set_len, set_len_add, List.append_assoc, List.cons_append, List.nil_append, -getElem?_pos, elems, hA, lenE_sl, c7', k1, k2]
        rw [← set_lt (k1 _)]
        exact hΨ _ _ ⟨GrBut.set f1 _, _, ins o e n l, get_self (by rw [List.length_append]; have := k1 [LO.own 37 [.int .i64 o, .int .i64 e, .int .i64 n]]; omega), by rw [← hins]; exact (f2.set hi' _).rd encV_len, good (by omega), ins_srt hs⟩

/-- Losses of numbers. -/
theorem losses_ok {h : LH} {v : SV} {l : List Int} (r : Rd h 3 1 encI v l) (h64 : ∀ x ∈ l, is64 x) :
    WPc C 15 [.s v] h fun u h' => Gr h h' ∧ ∃ i w rows, u = .s (.ptr i 0) ∧ h'[i]? = some (.own 25 [w]) ∧ Rd h' 37 3 encV w rows ∧ Good rows := by
  refine WPc.post fun Ψ hΨ => ?_
  refine WPc.intro (e := e15) rfl (by simp [e15]) ?_
  show WPk C b15 _ _ (KR [.tmp 2] _)
  simp [wpk_skip, wpk_seq, k_cond, wpk_block, wpk_exit, wpk_ret, wpk_loop, k_ops, k_draw0, t_nil, t_cons, KT_eq, KD_eq, wpo_nil, k_cons, k_step, mt_some, mtk_some, KO_eq, KP_eq, K_normal, K_ret, K_exit, KB_normal, KB_ret, KB_exit, KL_normal, KL_ret, KL_exit, k_ret, k_normal, stepE, isCall, calleeE, opE, wantE, odE, odS, odL, odSL, fget, fput, initE, keepF, List.map_cons, List.map_nil, binE, intOp, strOp, shOp, unE, eqpE, eqnE, neqB, ressE, resE, packL, packE, flat1, fcells, fillE, setL, cellsOf_bind, cellsO_own, cellsO_ro, lenE_sl, lenE_nils, lenE_sl0, bound, rep, minE, maxE, List.getElem?_cons_zero, List.getElem?_cons_succ, get_lt, set_lt, get_len, get_len_add, set_len, set_len_add, List.append_assoc, List.cons_append, List.nil_append, -getElem?_pos, b15, s15_3, s15_2, s15_1]
  refine WPl.post (fun x fr' h' => x = .exit 0 ∧ Gr h h' ∧ fr' = [(3, some (.s (.ptr h.length 0)))] ∧ ∃ w rows, h'[h.length]? = some (.own 25 [w]) ∧ Rd h' 37 3 encV w rows ∧ Good rows) (fun Φ hΦ => ?_) ?_
  · refine WPl.inv2 (fun m fr h' => Gr h h' ∧ ∃ k w rows, k ≤ 8 ∧ m = 8 - k ∧ h'[h.length]? = some (.own 25 [w]) ∧ Rd h' 37 3 encV w rows ∧ Good rows ∧ Srt rows ∧
      fr = [(0, some (.s v)), (3, some (.s (.ptr h.length 0))), (4, some (.s (.int .i64 k)))]) ?_ _ _ _ ⟨Gr.self h _, 0, .nils, [], Nat.zero_le _, rfl, get_len, .inl ⟨rfl, .inl rfl⟩, ⟨by simp, by simp [lefts], by simp, by simp⟩, by simp [Srt], rfl⟩
    rintro I hI m fr h' ⟨gr, k, w, rows, hk, rfl, ho, rd, g, hs, rfl⟩
    refine ⟨by simp [keepF, fget], ?_⟩
    have rl := r.len
    by_cases hlt : k < l.length
    · by_cases h8 : k < 8
      · obtain ⟨j, p, q, ob, vs, rfl, q2, q3, q4⟩ := (r.gr gr).int hlt
        have hx := h64 _ (List.getElem_mem hlt)
        generalize l[k] = x at hx q4
        have a1 := within_ok x 5 (by omega)
        have a2 := tdiv_64 hx 5 (by omega)
        have a3 := within_ok (x.tdiv 5) 5 (by omega)
        have a4 := tdiv_64 hx 25 (by omega)
        have hx' : is64 (x.tdiv 25) := by
          rw [← a4]; exact wrap_64 _
        have a5 := fun h => amount_ok hx' h
        have hy := amount_64 hx'
        generalize amountF (x.tdiv 25) = y at a5 hy
        have b1 : 0 ≤ x % 5 ∧ x % 5 < 5 := by omega
        have b2 : 0 ≤ x.tdiv 5 % 5 ∧ x.tdiv 5 % 5 < 5 := by omega
        generalize x % 5 = o at a1 b1
        generalize x.tdiv 5 % 5 = d at a3 b2
        have w1 : IntKind.i64.wrap (o + d) = o + d := wrap_small (by omega) (by omega)
        have w3 : IntKind.i64.wrap ((k : Int) + 1) = ((k + 1 : Nat) : Int) := wrap_small (by omega) (by omega)
        have h8' : (k : Int) < 8 := by omega
        have hmx : (if 1 > y then 1 else y) = max y 1 := by split <;> omega
        simp [wpk_skip, wpk_seq, k_cond, wpk_block, wpk_exit, wpk_ret, wpk_loop, k_ops, k_draw0, t_nil, t_cons, KT_eq, KD_eq, wpo_nil, k_cons, k_step, mt_some, mtk_some, KO_eq, KP_eq, K_normal, K_ret, K_exit, KB_normal, KB_ret, KB_exit, KL_normal, KL_ret, KL_exit, k_ret, k_normal, stepE, isCall, calleeE, opE, wantE, odE, odS, odL, odSL, fget, fput, initE, keepF, List.map_cons, List.map_nil, binE, intOp, strOp, shOp, unE, eqpE, eqnE, neqB, ressE, resE, packL, packE, flat1, fcells, fillE, setL, cellsOf_bind, cellsO_own, cellsO_ro, lenE_sl, lenE_nils, lenE_sl0, bound, rep, minE, maxE, List.getElem?_cons_zero, List.getElem?_cons_succ, get_lt, set_lt, get_len, get_len_add, set_len, set_len_add, List.append_assoc, List.cons_append, List.nil_append, -getElem?_pos, l15_0_1, l15_0, hlt, h8', q2, q3, q4, a1]
        refine k_draw ?_
        simp [wpk_skip, wpk_seq, k_cond, wpk_block, wpk_exit, wpk_ret, wpk_loop, k_ops, k_draw0, t_nil, t_cons, KT_eq, KD_eq, wpo_nil, k_cons, k_step, mt_some, mtk_some, KO_eq, KP_eq, K_normal, K_ret, K_exit, KB_normal, KB_ret, KB_exit, KL_normal, KL_ret, KL_exit, k_ret, k_normal, stepE, isCall, calleeE, opE, wantE, odE, odS, odL, odSL, fget, fput, initE, keepF, List.map_cons, List.map_nil, binE, intOp, strOp, shOp, unE, eqpE, eqnE, neqB, ressE, resE, packL, packE, flat1, fcells, fillE, setL, cellsOf_bind, cellsO_own, cellsO_ro, lenE_sl, lenE_nils, lenE_sl0, bound, rep, minE, maxE, List.getElem?_cons_zero, List.getElem?_cons_succ, get_lt, set_lt, get_len, get_len_add, set_len, set_len_add, List.append_assoc, List.cons_append, List.nil_append, slotsG, slotsE, odT, odsT, optT, partsT, okPairs, okPair, -getElem?_pos, hlt, q2, q3, q4, a2, a3, a4, a5, w1, hmx]
        refine WPc.go (add_ok ho rd g hs (o := o) (e := o + d) (n := max y 1) (by omega) (by omega) (by omega) (by unfold is64 at hy ⊢; omega)) ?_
        rintro u h2 ⟨g2, w2, rows2, c1, c2, c3, c4⟩
        have gr2 := g2.gr gr (Nat.le_refl _)
        simp [wpk_skip, wpk_seq, k_cond, wpk_block, wpk_exit, wpk_ret, wpk_loop, k_ops, k_draw0, t_nil, t_cons, KT_eq, KD_eq, wpo_nil, k_cons, k_step, mt_some, mtk_some, KO_eq, KP_eq, K_normal, K_ret, K_exit, KB_normal, KB_ret, KB_exit, KL_normal, KL_ret, KL_exit, k_ret, k_normal, stepE, isCall, calleeE, opE, wantE, odE, odS, odL, odSL, fget, fput, initE, keepF, List.map_cons, List.map_nil, binE, intOp, strOp, shOp, unE, eqpE, eqnE, neqB, ressE, resE, packL, packE, flat1, fcells, fillE, setL, cellsOf_bind, cellsO_own, cellsO_ro, lenE_sl, lenE_nils, lenE_sl0, bound, rep, minE, maxE, List.getElem?_cons_zero, List.getElem?_cons_succ, get_lt, set_lt, get_len, get_len_add, set_len, set_len_add, List.append_assoc, List.cons_append, List.nil_append, slotsG, slotsE, odT, odsT, optT, partsT, okPairs, okPair, -getElem?_pos, hlt, q2, q3, q4, a2, a3, a4, a5, w1, hmx, w3]
        exact ⟨_, by omega, hI _ _ _ ⟨gr2, k + 1, w2, rows2, by omega, rfl, c1, c2, c3, c4, rfl⟩⟩
      · obtain rfl : k = 8 := by omega
        have hlt' : (8 : Int) < l.length := by omega
        simp [wpk_skip, wpk_seq, k_cond, wpk_block, wpk_exit, wpk_ret, wpk_loop, k_ops, k_draw0, t_nil, t_cons, KT_eq, KD_eq, wpo_nil, k_cons, k_step, mt_some, mtk_some, KO_eq, KP_eq, K_normal, K_ret, K_exit, KB_normal, KB_ret, KB_exit, KL_normal, KL_ret, KL_exit, k_ret, k_normal, stepE, isCall, calleeE, opE, wantE, odE, odS, odL, odSL, fget, fput, initE, keepF, List.map_cons, List.map_nil, binE, intOp, strOp, shOp, unE, eqpE, eqnE, neqB, ressE, resE, packL, packE, flat1, fcells, fillE, setL, cellsOf_bind, cellsO_own, cellsO_ro, lenE_sl, lenE_nils, lenE_sl0, bound, rep, minE, maxE, List.getElem?_cons_zero, List.getElem?_cons_succ, get_lt, set_lt, get_len, get_len_add, set_len, set_len_add, List.append_assoc, List.cons_append, List.nil_append, -getElem?_pos, l15_0_1, l15_0, hlt, hlt', rl]
        exact hΦ _ _ _ ⟨rfl, gr, rfl, w, rows, ho, rd, g⟩
    · simp [wpk_skip, wpk_seq, k_cond, wpk_block, wpk_exit, wpk_ret, wpk_loop, k_ops, k_draw0, t_nil, t_cons, KT_eq, KD_eq, wpo_nil, k_cons, k_step, mt_some, mtk_some, KO_eq, KP_eq, K_normal, K_ret, K_exit, KB_normal, KB_ret, KB_exit, KL_normal, KL_ret, KL_exit, k_ret, k_normal, stepE, isCall, calleeE, opE, wantE, odE, odS, odL, odSL, fget, fput, initE, keepF, List.map_cons, List.map_nil, binE, intOp, strOp, shOp, unE, eqpE, eqnE, neqB, ressE, resE, packL, packE, flat1, fcells, fillE, setL, cellsOf_bind, cellsO_own, cellsO_ro, lenE_sl, lenE_nils, lenE_sl0, bound, rep, minE, maxE, List.getElem?_cons_zero, List.getElem?_cons_succ, get_lt, set_lt, get_len, get_len_add, set_len, set_len_add, List.append_assoc, List.cons_append, List.nil_append, -getElem?_pos, l15_0_1, l15_0, hlt, rl]
      exact hΦ _ _ _ ⟨rfl, gr, rfl, w, rows, ho, rd, g⟩
  · rintro x fr' h' ⟨rfl, gr, rfl, w, rows, ho, rd, g⟩
    simp [wpk_skip, wpk_seq, k_cond, wpk_block, wpk_exit, wpk_ret, wpk_loop, k_ops, k_draw0, t_nil, t_cons, KT_eq, KD_eq, wpo_nil, k_cons, k_step, mt_some, mtk_some, KO_eq, KP_eq, K_normal, K_ret, K_exit, KB_normal, KB_ret, KB_exit, KL_normal, KL_ret, KL_exit, k_ret, k_normal, stepE, isCall, calleeE, opE, wantE, odE, odS, odL, odSL, fget, fput, initE, keepF, List.map_cons, List.map_nil, binE, intOp, strOp, shOp, unE, eqpE, eqnE, neqB, ressE, resE, packL, packE, flat1, fcells, fillE, setL, cellsOf_bind, cellsO_own, cellsO_ro, lenE_sl, lenE_nils, lenE_sl0, bound, rep, minE, maxE, List.getElem?_cons_zero, List.getElem?_cons_succ, get_lt, set_lt, get_len, get_len_add, set_len, set_len_add, List.append_assoc, List.cons_append, List.nil_append, -getElem?_pos, ]
    exact hΨ _ _ ⟨gr, _, w, rows, rfl, ho, rd, g⟩
end Go.Proofs.Ytfnihfcdoibleaa.Ev.CU
