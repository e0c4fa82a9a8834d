/- The document's register of differences on the small machine. -/
import Derived.Test.YtcimcccnhbbncaaMsA
set_option linter.unusedSimpArgs false
set_option linter.unusedVariables false
namespace Go.Proofs.Ytcimcccnhbbncaa.Ev.CE
open Go

theorem wrap_64 (n : Int) : is64 (IntKind.i64.wrap n) := by
  unfold is64
  simp [IntKind.wrap, IntKind.bits, IntKind.signed]; omega
def amountF (n : Int) : Int :=
  if n.tmod 23 = 20 then 100000000000 - (n.tdiv 23) % 5 + 2
  else if n.tmod 23 = 21 then -100000000000 + (n.tdiv 23) % 5 - 2
  else if n.tmod 23 = 22 then n
  else if n.tmod 23 = 19 then (n.tdiv 23) % 200000000001 - 100000000000
  else n % 4001 - 2000
theorem amount_64 {n : Int} (hn : is64 n) : is64 (amountF n) := by
  unfold amountF is64 at *
  have a1 : 0 ≤ (n.tdiv 23) % 5 ∧ (n.tdiv 23) % 5 < 5 := by omega
  have a2 : 0 ≤ (n.tdiv 23) % 200000000001 ∧ (n.tdiv 23) % 200000000001 < 200000000001 := by omega
  have a3 : 0 ≤ n % 4001 ∧ n % 4001 < 4001 := by omega
  split
  · omega
  · split
    · omega
    · split
      · omega
      · split <;> omega
theorem amount_ok {n : Int} (hn : is64 n) (h : LH) : callX C 30 [.s (.int .i64 n)] h = some (.s (.int .i64 (amountF n)), h) := by
  apply callX_wp
  refine WPc.intro (e := e30) rfl (by simp [e30]) ?_
  show WPk C b30 _ _ (KR [.tmp 2] _)
  have hd := tdiv_64 hn 23 (by omega)
  have a1 := Int.emod_lt_of_pos (n.tdiv 23) (show (0:Int) < 5 by omega)
  have a2 := Int.emod_nonneg (n.tdiv 23) (show (5:Int) ≠ 0 by omega)
  have b1 := Int.emod_lt_of_pos (n.tdiv 23) (show (0:Int) < 200000000001 by omega)
  have b2 := Int.emod_nonneg (n.tdiv 23) (show (200000000001:Int) ≠ 0 by omega)
  have c1 := Int.emod_lt_of_pos n (show (0:Int) < 4001 by omega)
  have c2 := Int.emod_nonneg n (show (4001:Int) ≠ 0 by omega)
  unfold amountF
  by_cases e0 : n.tmod 23 = 20
  · have w := within_ok (n.tdiv 23) 5 (by omega) h
    have w1 : IntKind.i64.wrap (100000000000 - n.tdiv 23 % 5) = 100000000000 - n.tdiv 23 % 5 := wrap_small (by omega) (by omega)
    have w2 : IntKind.i64.wrap (100000000000 - n.tdiv 23 % 5 + 2) = 100000000000 - n.tdiv 23 % 5 + 2 := wrap_small (by omega) (by omega)
    simp [wpk_skip, wpk_seq, k_cond, wpk_block, wpk_exit, wpk_ret, wpk_loop, k_ops, k_draw0, t_nil, t_cons, KT_eq, KD_eq, wpo_nil, k_cons, k_step, mt_some, mtk_some, KO_eq, KP_eq, K_normal, K_ret, K_exit, KB_normal, KB_ret, KB_exit, KL_normal, KL_ret, KL_exit, k_ret, k_normal, stepE, isCall, calleeE, opE, wantE, odE, odS, odL, odSL, fget, fput, initE, keepF, List.map_cons, List.map_nil, binE, intOp, strOp, shOp, unE, eqpE, eqnE, neqB, ressE, resE, packL, packE, flat1, fcells, fillE, setL, cellsOf_bind, cellsO_own, cellsO_ro, lenE_sl, lenE_nils, lenE_sl0, bound, rep, minE, maxE, List.getElem?_cons_zero, List.getElem?_cons_succ, get_lt, set_lt, get_len, get_len_add, set_len, set_len_add, List.append_assoc, List.cons_append, List.nil_append, -getElem?_pos, b30, s30_2, s30_1, e0, hd, w, w1, w2]
  by_cases e1 : n.tmod 23 = 21
  · have w := within_ok (n.tdiv 23) 5 (by omega) h
    have w1 : IntKind.i64.wrap (-100000000000 + n.tdiv 23 % 5) = -100000000000 + n.tdiv 23 % 5 := wrap_small (by omega) (by omega)
    have w2 : IntKind.i64.wrap (-100000000000 + n.tdiv 23 % 5 - 2) = -100000000000 + n.tdiv 23 % 5 - 2 := wrap_small (by omega) (by omega)
    simp [wpk_skip, wpk_seq, k_cond, wpk_block, wpk_exit, wpk_ret, wpk_loop, k_ops, k_draw0, t_nil, t_cons, KT_eq, KD_eq, wpo_nil, k_cons, k_step, mt_some, mtk_some, KO_eq, KP_eq, K_normal, K_ret, K_exit, KB_normal, KB_ret, KB_exit, KL_normal, KL_ret, KL_exit, k_ret, k_normal, stepE, isCall, calleeE, opE, wantE, odE, odS, odL, odSL, fget, fput, initE, keepF, List.map_cons, List.map_nil, binE, intOp, strOp, shOp, unE, eqpE, eqnE, neqB, ressE, resE, packL, packE, flat1, fcells, fillE, setL, cellsOf_bind, cellsO_own, cellsO_ro, lenE_sl, lenE_nils, lenE_sl0, bound, rep, minE, maxE, List.getElem?_cons_zero, List.getElem?_cons_succ, get_lt, set_lt, get_len, get_len_add, set_len, set_len_add, List.append_assoc, List.cons_append, List.nil_append, -getElem?_pos, b30, s30_2, s30_1, e1, hd, w, w1, w2]
  by_cases e2 : n.tmod 23 = 22
  · simp [wpk_skip, wpk_seq, k_cond, wpk_block, wpk_exit, wpk_ret, wpk_loop, k_ops, k_draw0, t_nil, t_cons, KT_eq, KD_eq, wpo_nil, k_cons, k_step, mt_some, mtk_some, KO_eq, KP_eq, K_normal, K_ret, K_exit, KB_normal, KB_ret, KB_exit, KL_normal, KL_ret, KL_exit, k_ret, k_normal, stepE, isCall, calleeE, opE, wantE, odE, odS, odL, odSL, fget, fput, initE, keepF, List.map_cons, List.map_nil, binE, intOp, strOp, shOp, unE, eqpE, eqnE, neqB, ressE, resE, packL, packE, flat1, fcells, fillE, setL, cellsOf_bind, cellsO_own, cellsO_ro, lenE_sl, lenE_nils, lenE_sl0, bound, rep, minE, maxE, List.getElem?_cons_zero, List.getElem?_cons_succ, get_lt, set_lt, get_len, get_len_add, set_len, set_len_add, List.append_assoc, List.cons_append, List.nil_append, -getElem?_pos, b30, s30_2, s30_1, e2]
  by_cases e3 : n.tmod 23 = 19
  · have w := within_ok (n.tdiv 23) 200000000001 (by omega) h
    have w1 : IntKind.i64.wrap (n.tdiv 23 % 200000000001 - 100000000000) = n.tdiv 23 % 200000000001 - 100000000000 := wrap_small (by omega) (by omega)
    simp [wpk_skip, wpk_seq, k_cond, wpk_block, wpk_exit, wpk_ret, wpk_loop, k_ops, k_draw0, t_nil, t_cons, KT_eq, KD_eq, wpo_nil, k_cons, k_step, mt_some, mtk_some, KO_eq, KP_eq, K_normal, K_ret, K_exit, KB_normal, KB_ret, KB_exit, KL_normal, KL_ret, KL_exit, k_ret, k_normal, stepE, isCall, calleeE, opE, wantE, odE, odS, odL, odSL, fget, fput, initE, keepF, List.map_cons, List.map_nil, binE, intOp, strOp, shOp, unE, eqpE, eqnE, neqB, ressE, resE, packL, packE, flat1, fcells, fillE, setL, cellsOf_bind, cellsO_own, cellsO_ro, lenE_sl, lenE_nils, lenE_sl0, bound, rep, minE, maxE, List.getElem?_cons_zero, List.getElem?_cons_succ, get_lt, set_lt, get_len, get_len_add, set_len, set_len_add, List.append_assoc, List.cons_append, List.nil_append, -getElem?_pos, b30, s30_2, s30_1, e3, hd, w, w1]
  · have w := within_ok n 4001 (by omega) h
    have w1 : IntKind.i64.wrap (n % 4001 - 2000) = n % 4001 - 2000 := wrap_small (by omega) (by omega)
    simp [wpk_skip, wpk_seq, k_cond, wpk_block, wpk_exit, wpk_ret, wpk_loop, k_ops, k_draw0, t_nil, t_cons, KT_eq, KD_eq, wpo_nil, k_cons, k_step, mt_some, mtk_some, KO_eq, KP_eq, K_normal, K_ret, K_exit, KB_normal, KB_ret, KB_exit, KL_normal, KL_ret, KL_exit, k_ret, k_normal, stepE, isCall, calleeE, opE, wantE, odE, odS, odL, odSL, fget, fput, initE, keepF, List.map_cons, List.map_nil, binE, intOp, strOp, shOp, unE, eqpE, eqnE, neqB, ressE, resE, packL, packE, flat1, fcells, fillE, setL, cellsOf_bind, cellsO_own, cellsO_ro, lenE_sl, lenE_nils, lenE_sl0, bound, rep, minE, maxE, List.getElem?_cons_zero, List.getElem?_cons_succ, get_lt, set_lt, get_len, get_len_add, set_len, set_len_add, List.append_assoc, List.cons_append, List.nil_append, -getElem?_pos, b30, s30_2, s30_1, e0, e1, e2, e3, w, w1]

def amts (l : List Bu) : List Int := l.map Bu.a
def Lt (c y : Int) (b : Bu) : Prop := b.c > c ∨ b.c = c ∧ b.y > y
instance (c y : Int) (b : Bu) : Decidable (Lt c y b) := by unfold Lt; infer_instance
def SrtB (l : List Bu) : Prop := l.Pairwise fun a b => Lt a.c a.y b
structure GoodB (l : List Bu) : Prop where
  mon : ∀ b ∈ l, -100000000000 ≤ b.a ∧ b.a ≤ 100000000000
  sum : -100000000000 ≤ (amts l).sum ∧ (amts l).sum ≤ 100000000000
  len : l.length ≤ 12
  srt : SrtB l
theorem goodB_nil : GoodB [] := ⟨by simp, by simp [amts], by simp, by simp [SrtB]⟩

def isB (c y : Int) (b : Bu) : Bool := b.c == c && b.y == y
def getF (c y : Int) : List Bu → Int
  | [] => 0
  | b :: r => if isB c y b then b.a else getF c y r
def stepS (c y n : Int) (s : List Bu × Bool) (b : Bu) : List Bu × Bool :=
  if isB c y b then s else if s.2 = false ∧ Lt c y b then (s.1 ++ [⟨c, y, n⟩, b], true) else (s.1 ++ [b], s.2)
def setF (c y n : Int) (l : List Bu) : List Bu := if (l.foldl (stepS c y n) ([], n == 0)).2 then (l.foldl (stepS c y n) ([], n == 0)).1 else (l.foldl (stepS c y n) ([], n == 0)).1 ++ [⟨c, y, n⟩]
def insB (c y n : Int) : List Bu → List Bu
  | [] => if n = 0 then [] else [⟨c, y, n⟩]
  | b :: r => if isB c y b then (if n = 0 then r else ⟨c, y, n⟩ :: r) else if Lt c y b then (if n = 0 then b :: r else ⟨c, y, n⟩ :: b :: r) else b :: insB c y n r
theorem isB_iff {c y : Int} {b : Bu} : isB c y b = true ↔ b.c = c ∧ b.y = y := by simp [isB]
theorem lt_not {c y : Int} {b : Bu} (h : Lt c y b) : isB c y b = false := by
  unfold Lt at h
  cases e : isB c y b with
  | false => rfl
  | true => have := isB_iff.1 e; omega
theorem lt_trans' {c y : Int} {b x : Bu} (h : isB c y b = true ∨ Lt c y b) (hx : Lt b.c b.y x) : Lt c y x := by
  unfold Lt at *
  rcases h with h | h
  · have := isB_iff.1 h; omega
  · omega
theorem foldS_true (c y n : Int) : ∀ (r acc : List Bu), (∀ b ∈ r, isB c y b = false) → r.foldl (stepS c y n) (acc, true) = (acc ++ r, true)
  | [], acc, _ => by simp
  | b :: r, acc, h => by
    rw [List.foldl_cons]
    have : stepS c y n (acc, true) b = (acc ++ [b], true) := by
      unfold stepS
      rw [h b List.mem_cons_self]; simp
    rw [this, foldS_true c y n r _ fun x hx => h x (List.mem_cons_of_mem _ hx)]; simp
/-- With a bucket that goes: the others stay. -/
theorem foldS_zero (c y : Int) : ∀ (l acc : List Bu), SrtB l → l.foldl (stepS c y 0) (acc, true) = (acc ++ insB c y 0 l, true)
  | [], acc, _ => by simp [insB]
  | b :: r, acc, h => by
    obtain ⟨h1, h2⟩ := List.pairwise_cons.1 h
    rw [List.foldl_cons]
    cases e : isB c y b with
    | true =>
      have : stepS c y 0 (acc, true) b = (acc, true) := by unfold stepS; rw [if_pos e]
      rw [this, foldS_true c y 0 r _ fun x hx => lt_not (lt_trans' (.inl e) (h1 x hx))]
      simp [insB, e]
    | false =>
      have hs : stepS c y 0 (acc, true) b = (acc ++ [b], true) := by unfold stepS; rw [e]; simp
      rw [hs]
      by_cases d : Lt c y b
      · rw [foldS_true c y 0 r _ fun x hx => lt_not (lt_trans' (.inr d) (h1 x hx))]
        simp [insB, e, d]
      · rw [foldS_zero c y r _ h2]
        simp [insB, e, d]
theorem foldS_false (c y n : Int) (hn : n ≠ 0) : ∀ (l acc : List Bu), SrtB l → (if (l.foldl (stepS c y n) (acc, false)).2 then (l.foldl (stepS c y n) (acc, false)).1 else (l.foldl (stepS c y n) (acc, false)).1 ++ [⟨c, y, n⟩]) = acc ++ insB c y n l
  | [], acc, _ => by simp [insB, hn]
  | b :: r, acc, h => by
    obtain ⟨h1, h2⟩ := List.pairwise_cons.1 h
    rw [List.foldl_cons]
    cases e : isB c y b with
    | true =>
      have : stepS c y n (acc, false) b = (acc, false) := by unfold stepS; rw [if_pos e]
      rw [this]
      have hgt : ∀ x ∈ r, Lt c y x := fun x hx => lt_trans' (.inl e) (h1 x hx)
      cases r with
      | nil => simp [insB, e, hn]
      | cons x r' =>
        rw [List.foldl_cons]
        have hx := hgt x List.mem_cons_self
        have : stepS c y n (acc, false) x = (acc ++ [⟨c, y, n⟩, x], true) := by unfold stepS; rw [lt_not hx, if_neg (by simp), if_pos ⟨rfl, hx⟩]
        rw [this, foldS_true c y n r' _ fun z hz => lt_not (hgt z (List.mem_cons_of_mem _ hz))]
        simp [insB, e, hn]
    | false =>
      by_cases d : Lt c y b
      · have : stepS c y n (acc, false) b = (acc ++ [⟨c, y, n⟩, b], true) := by unfold stepS; rw [e, if_neg (by simp), if_pos ⟨rfl, d⟩]
        rw [this, foldS_true c y n r _ fun x hx => lt_not (lt_trans' (.inr d) (h1 x hx))]
        simp [insB, e, d, hn]
      · have : stepS c y n (acc, false) b = (acc ++ [b], false) := by unfold stepS; rw [e, if_neg (by simp), if_neg (fun x => d x.2)]
        rw [this, foldS_false c y n hn r _ h2]
        simp [insB, e, d]
theorem setF_ins {c y n : Int} {l : List Bu} (h : SrtB l) : setF c y n l = insB c y n l := by
  unfold setF
  by_cases hn : n = 0
  · subst hn
    simp only [beq_self_eq_true]
    rw [foldS_zero c y l [] h]; simp
  · have : (n == 0) = false := by simpa using hn
    rw [this, foldS_false c y n hn l [] h]; simp
theorem insB_mem {c y n : Int} : ∀ {l : List Bu} {x : Bu}, x ∈ insB c y n l → x = ⟨c, y, n⟩ ∨ x ∈ l
  | [], x, h => by
    unfold insB at h
    split at h
    · simp at h
    · simp at h; exact .inl h
  | b :: r, x, h => by
    unfold insB at h
    split at h
    · split at h
      · exact .inr (List.mem_cons_of_mem _ h)
      · rcases List.mem_cons.1 h with h | h
        · exact .inl h
        · exact .inr (List.mem_cons_of_mem _ h)
    · split at h
      · split at h
        · exact .inr h
        · rcases List.mem_cons.1 h with h | h
          · exact .inl h
          · exact .inr h
      · rcases List.mem_cons.1 h with rfl | h
        · exact .inr List.mem_cons_self
        · exact (insB_mem h).imp id (List.mem_cons_of_mem _)
theorem insB_srt {c y n : Int} : ∀ {l : List Bu}, SrtB l → SrtB (insB c y n l)
  | [], _ => by unfold insB; split <;> simp [SrtB]
  | b :: r, h => by
    obtain ⟨h1, h2⟩ := List.pairwise_cons.1 h
    unfold insB
    split
    · rename_i e
      split
      · exact h2
      · refine List.pairwise_cons.2 ⟨fun x hx => ?_, h2⟩
        exact lt_trans' (.inl e) (h1 x hx)
    · rename_i e
      split
      · rename_i d
        split
        · exact h
        · refine List.pairwise_cons.2 ⟨fun x hx => ?_, h⟩
          rcases List.mem_cons.1 hx with rfl | hx
          · exact d
          · exact lt_trans' (.inr d) (h1 x hx)
      · rename_i d
        refine List.pairwise_cons.2 ⟨fun x hx => ?_, insB_srt h2⟩
        rcases insB_mem hx with rfl | hx
        · have e' : ¬ (b.c = c ∧ b.y = y) := fun q => e (isB_iff.2 q)
          unfold Lt at d ⊢
          simp only; omega
        · exact h1 x hx
theorem get_none {c y : Int} : ∀ (l : List Bu), (∀ b ∈ l, isB c y b = false) → getF c y l = 0
  | [], _ => rfl
  | b :: r, h => by
    unfold getF
    rw [h b List.mem_cons_self]
    exact get_none r fun x hx => h x (List.mem_cons_of_mem _ hx)
theorem insB_sum {c y n : Int} : ∀ (l : List Bu), SrtB l → (amts (insB c y n l)).sum = (amts l).sum - getF c y l + n
  | [], _ => by
    unfold insB
    split
    · rename_i h; simp [amts, getF, h]
    · simp [amts, getF]
  | b :: r, h => by
    obtain ⟨h1, h2⟩ := List.pairwise_cons.1 h
    have ih := insB_sum (c := c) (y := y) (n := n) r h2
    unfold amts at ih ⊢
    unfold insB getF
    split
    · split
      · rename_i h0; simp [h0]; omega
      · simp; omega
    · split
      · rename_i d
        have : getF c y r = 0 := get_none r fun x hx => lt_not (lt_trans' (.inr d) (h1 x hx))
        split
        · rename_i h0; simp [h0, this]
        · simp [this]; omega
      · simp; omega
theorem insB_len {c y n : Int} : ∀ (l : List Bu), (insB c y n l).length ≤ l.length + 1
  | [] => by unfold insB; split <;> simp
  | b :: r => by
    have := insB_len (c := c) (y := y) (n := n) r
    unfold insB
    split
    · split <;> simp <;> omega
    · split
      · split <;> simp
      · simp; omega
theorem goodB_set {c y n : Int} {l : List Bu} (g : GoodB l) (hn : -100000000000 ≤ n ∧ n ≤ 100000000000) (hs : -100000000000 ≤ (amts l).sum - getF c y l + n ∧ (amts l).sum - getF c y l + n ≤ 100000000000) (hl : (insB c y n l).length ≤ 12) : GoodB (insB c y n l) :=
  ⟨fun b hb => by
    rcases insB_mem hb with rfl | hb
    · exact hn
    · exact g.mon b hb, by rw [insB_sum l g.srt]; exact hs, hl, insB_srt g.srt⟩
theorem get_bound {c y : Int} : ∀ {l : List Bu}, (∀ b ∈ l, -100000000000 ≤ b.a ∧ b.a ≤ 100000000000) → -100000000000 ≤ getF c y l ∧ getF c y l ≤ 100000000000
  | [], _ => by simp [getF]
  | b :: r, h => by
    unfold getF
    split
    · exact h b List.mem_cons_self
    · exact get_bound fun x hx => h x (List.mem_cons_of_mem _ hx)
theorem stepS_len (c y n : Int) (s : List Bu × Bool) (b : Bu) : (stepS c y n s b).1.length + (if (stepS c y n s b).2 then 0 else 1) ≤ s.1.length + (if s.2 then 0 else 1) + 1 := by
  unfold stepS
  split
  · omega
  · split
    · rename_i h; simp [h.1]
    · simp; omega
theorem foldS_len (c y n : Int) : ∀ (l : List Bu) (s : List Bu × Bool), (l.foldl (stepS c y n) s).1.length ≤ s.1.length + (if s.2 then 0 else 1) + l.length
  | [], s => by simp
  | b :: r, s => by
    have a := foldS_len c y n r (stepS c y n s b)
    have b := stepS_len c y n s b
    rw [List.foldl_cons, List.length_cons]
    omega

theorem get52_ok {h : LH} {i : Nat} {v : SV} {l : List Bu} (hi : h[i]? = some (.own 25 [v])) (rd : Rd h 30 3 encB v l) (hl : l.length < 1000) (c y : Int) : WPc C 52 [.s (.ptr i 0), .s (.int .i64 c), .s (.int .i64 y)] h fun u h' => Gr h h' ∧ u = .s (.int .i64 (getF c y l)) := by
  refine WPc.post fun Ψ hΨ => ?_
  refine WPc.intro (e := e52) rfl (by simp [e52]) ?_
  show WPk C b52 _ _ (KR [.tmp 6] _)
  have li := lt_of_some hi
  simp [wpk_skip, wpk_seq, k_cond, wpk_block, wpk_exit, wpk_ret, wpk_loop, k_ops, k_draw0, t_nil, t_cons, KT_eq, KD_eq, wpo_nil, k_cons, k_step, mt_some, mtk_some, KO_eq, KP_eq, K_normal, K_ret, K_exit, KB_normal, KB_ret, KB_exit, KL_normal, KL_ret, KL_exit, k_ret, k_normal, stepE, isCall, calleeE, opE, wantE, odE, odS, odL, odSL, fget, fput, initE, keepF, List.map_cons, List.map_nil, binE, intOp, strOp, shOp, unE, eqpE, eqnE, neqB, ressE, resE, packL, packE, flat1, fcells, fillE, setL, cellsOf_bind, cellsO_own, cellsO_ro, lenE_sl, lenE_nils, lenE_sl0, bound, rep, minE, maxE, List.getElem?_cons_zero, List.getElem?_cons_succ, get_lt, set_lt, get_len, get_len_add, set_len, set_len_add, List.append_assoc, List.cons_append, List.nil_append, -getElem?_pos, b52, s52_2, s52_1, hi, li, rd.len]
  obtain ⟨T, hT⟩ : ∃ T, T = getF c y l := ⟨_, rfl⟩
  rw [← hT] at hΨ
  refine WPl.inv2 (fun n fr h' => Gr h h' ∧ ∃ k : Nat, k ≤ l.length ∧ n = l.length - k ∧ getF c y (l.drop k) = T ∧
    fr = [(1, some (.s (.int .i64 c))), (2, some (.s (.int .i64 y))), (12, some (.s v)), (13, some (.s (.int .i64 l.length))), (14, some (.s (.int .i64 k)))]) ?_ _ _ _ ⟨Gr.refl _, 0, Nat.zero_le _, rfl, hT.symm, rfl⟩
  rintro I hI n fr h' ⟨gr, k, hk, rfl, he, rfl⟩
  refine ⟨by simp [keepF, fget], ?_⟩
  by_cases hlt : k < l.length
  · obtain ⟨j0, p0, q0, ob0, vs0, rfl, c1, c2, c3, c4, -⟩ := (rd.gr gr).at encB_len hlt
    have c5 := lt_of_some c1
    have w3 : IntKind.i64.wrap ((k : Int) + 1) = ((k + 1 : Nat) : Int) := wrap_small (by omega) (by omega)
    rw [List.drop_eq_getElem_cons hlt] at he
    simp only [getF] at he
    simp only [encB] at c4
    generalize l[k] = x at *
    cases f1 : x.c == c with
    | false =>
      have hq : isB c y x = false := by unfold isB; rw [f1]; rfl
      rw [hq] at he
      simp only [Bool.false_eq_true, if_false] at he
      simp [wpk_skip, wpk_seq, k_cond, wpk_block, wpk_exit, wpk_ret, wpk_loop, k_ops, k_draw0, t_nil, t_cons, KT_eq, KD_eq, wpo_nil, k_cons, k_step, mt_some, mtk_some, KO_eq, KP_eq, K_normal, K_ret, K_exit, KB_normal, KB_ret, KB_exit, KL_normal, KL_ret, KL_exit, k_ret, k_normal, stepE, isCall, calleeE, opE, wantE, odE, odS, odL, odSL, fget, fput, initE, keepF, List.map_cons, List.map_nil, binE, intOp, strOp, shOp, unE, eqpE, eqnE, neqB, ressE, resE, packL, packE, flat1, fcells, fillE, setL, cellsOf_bind, cellsO_own, cellsO_ro, lenE_sl, lenE_nils, lenE_sl0, bound, rep, minE, maxE, List.getElem?_cons_zero, List.getElem?_cons_succ, get_lt, set_lt, get_len, get_len_add, set_len, set_len_add, List.append_assoc, List.cons_append, List.nil_append, -getElem?_pos, l52_0_2, l52_0_1, l52_0, hlt, c1, c2, c3, c4, c5, f1, w3]
      exact ⟨_, by omega, hI _ _ _ ⟨gr.app _, k + 1, hlt, rfl, he, rfl⟩⟩
    | true =>
      cases f2 : x.y == y with
      | false =>
        have hq : isB c y x = false := by unfold isB; rw [f1, f2]; rfl
        rw [hq] at he
        simp only [Bool.false_eq_true, if_false] at he
        simp [wpk_skip, wpk_seq, k_cond, wpk_block, wpk_exit, wpk_ret, wpk_loop, k_ops, k_draw0, t_nil, t_cons, KT_eq, KD_eq, wpo_nil, k_cons, k_step, mt_some, mtk_some, KO_eq, KP_eq, K_normal, K_ret, K_exit, KB_normal, KB_ret, KB_exit, KL_normal, KL_ret, KL_exit, k_ret, k_normal, stepE, isCall, calleeE, opE, wantE, odE, odS, odL, odSL, fget, fput, initE, keepF, List.map_cons, List.map_nil, binE, intOp, strOp, shOp, unE, eqpE, eqnE, neqB, ressE, resE, packL, packE, flat1, fcells, fillE, setL, cellsOf_bind, cellsO_own, cellsO_ro, lenE_sl, lenE_nils, lenE_sl0, bound, rep, minE, maxE, List.getElem?_cons_zero, List.getElem?_cons_succ, get_lt, set_lt, get_len, get_len_add, set_len, set_len_add, List.append_assoc, List.cons_append, List.nil_append, -getElem?_pos, l52_0_2, l52_0_1, l52_0, hlt, c1, c2, c3, c4, c5, f1, f2, w3]
        exact ⟨_, by omega, hI _ _ _ ⟨gr.app _, k + 1, hlt, rfl, he, rfl⟩⟩
      | true =>
        have hq : isB c y x = true := by unfold isB; rw [f1, f2]; rfl
        rw [hq] at he
        simp only [if_true] at he
        simp [wpk_skip, wpk_seq, k_cond, wpk_block, wpk_exit, wpk_ret, wpk_loop, k_ops, k_draw0, t_nil, t_cons, KT_eq, KD_eq, wpo_nil, k_cons, k_step, mt_some, mtk_some, KO_eq, KP_eq, K_normal, K_ret, K_exit, KB_normal, KB_ret, KB_exit, KL_normal, KL_ret, KL_exit, k_ret, k_normal, stepE, isCall, calleeE, opE, wantE, odE, odS, odL, odSL, fget, fput, initE, keepF, List.map_cons, List.map_nil, binE, intOp, strOp, shOp, unE, eqpE, eqnE, neqB, ressE, resE, packL, packE, flat1, fcells, fillE, setL, cellsOf_bind, cellsO_own, cellsO_ro, lenE_sl, lenE_nils, lenE_sl0, bound, rep, minE, maxE, List.getElem?_cons_zero, List.getElem?_cons_succ, get_lt, set_lt, get_len, get_len_add, set_len, set_len_add, List.append_assoc, List.cons_append, List.nil_append, -getElem?_pos, l52_0_2, l52_0_1, l52_0, hlt, c1, c2, c3, c4, c5, f1, f2]
        exact hΨ _ _ ⟨gr.app _, by rw [he]⟩
  · obtain rfl : k = l.length := by omega
    rw [List.drop_eq_nil_of_le (Nat.le_refl _)] at he
    simp only [getF] at he
    simp [wpk_skip, wpk_seq, k_cond, wpk_block, wpk_exit, wpk_ret, wpk_loop, k_ops, k_draw0, t_nil, t_cons, KT_eq, KD_eq, wpo_nil, k_cons, k_step, mt_some, mtk_some, KO_eq, KP_eq, K_normal, K_ret, K_exit, KB_normal, KB_ret, KB_exit, KL_normal, KL_ret, KL_exit, k_ret, k_normal, stepE, isCall, calleeE, opE, wantE, odE, odS, odL, odSL, fget, fput, initE, keepF, List.map_cons, List.map_nil, binE, intOp, strOp, shOp, unE, eqpE, eqnE, neqB, ressE, resE, packL, packE, flat1, fcells, fillE, setL, cellsOf_bind, cellsO_own, cellsO_ro, lenE_sl, lenE_nils, lenE_sl0, bound, rep, minE, maxE, List.getElem?_cons_zero, List.getElem?_cons_succ, get_lt, set_lt, get_len, get_len_add, set_len, set_len_add, List.append_assoc, List.cons_append, List.nil_append, -getElem?_pos, l52_0_2, l52_0_1, l52_0, hlt]
    exact hΨ _ _ ⟨gr, by rw [← he]⟩

theorem amts_take {l : List Bu} (g : ∀ b ∈ l, -100000000000 ≤ b.a ∧ b.a ≤ 100000000000) : ∀ k : Nat, k ≤ l.length → -100000000000 * (k : Int) ≤ ((amts l).take k).sum ∧ ((amts l).take k).sum ≤ 100000000000 * k
  | 0, _ => by simp
  | k + 1, hk => by
    have ih := amts_take g k (by omega)
    have hk' : k < (amts l).length := by simp [amts]; omega
    have hb := g l[k] (List.getElem_mem (by omega))
    have e : (amts l)[k] = l[k].a := by simp [amts]
    rw [List.take_succ_eq_append_getElem hk', List.sum_append, e]
    simp only [List.sum_cons, List.sum_nil]
    omega
theorem total53_ok {h : LH} {i : Nat} {v : SV} {l : List Bu} (hi : h[i]? = some (.own 25 [v])) (rd : Rd h 30 3 encB v l) (g : GoodB l) : WPc C 53 [.s (.ptr i 0)] h fun u h' => Gr h h' ∧ u = .s (.int .i64 (amts l).sum) := by
  refine WPc.post fun Ψ hΨ => ?_
  refine WPc.intro (e := e53) rfl (by simp [e53]) ?_
  show WPk C b53 _ _ (KR [.tmp 2] _)
  have li := lt_of_some hi
  have hl := g.len
  have hll : (amts l).length = l.length := by simp [amts]
  simp [wpk_skip, wpk_seq, k_cond, wpk_block, wpk_exit, wpk_ret, wpk_loop, k_ops, k_draw0, t_nil, t_cons, KT_eq, KD_eq, wpo_nil, k_cons, k_step, mt_some, mtk_some, KO_eq, KP_eq, K_normal, K_ret, K_exit, KB_normal, KB_ret, KB_exit, KL_normal, KL_ret, KL_exit, k_ret, k_normal, stepE, isCall, calleeE, opE, wantE, odE, odS, odL, odSL, fget, fput, initE, keepF, List.map_cons, List.map_nil, binE, intOp, strOp, shOp, unE, eqpE, eqnE, neqB, ressE, resE, packL, packE, flat1, fcells, fillE, setL, cellsOf_bind, cellsO_own, cellsO_ro, lenE_sl, lenE_nils, lenE_sl0, bound, rep, minE, maxE, List.getElem?_cons_zero, List.getElem?_cons_succ, get_lt, set_lt, get_len, get_len_add, set_len, set_len_add, List.append_assoc, List.cons_append, List.nil_append, -getElem?_pos, b53, s53_3, s53_2, s53_1, hi, li, rd.len]
  refine WPl.inv2 (fun n fr h' => Gr h h' ∧ ∃ k : Nat, k ≤ l.length ∧ n = l.length - k ∧
    fr = [(3, some (.s (.int .i64 ((amts l).take k).sum))), (9, some (.s v)), (10, some (.s (.int .i64 l.length))), (11, some (.s (.int .i64 k)))]) ?_ _ _ _ ⟨Gr.refl _, 0, Nat.zero_le _, rfl, by simp⟩
  rintro I hI n fr h' ⟨gr, k, hk, rfl, rfl⟩
  refine ⟨by simp [keepF, fget], ?_⟩
  by_cases hlt : k < l.length
  · obtain ⟨j0, p0, q0, ob0, vs0, rfl, c1, c2, c3, c4, -⟩ := (rd.gr gr).at encB_len hlt
    have c5 := lt_of_some c1
    have w3 : IntKind.i64.wrap ((k : Int) + 1) = ((k + 1 : Nat) : Int) := wrap_small (by omega) (by omega)
    have b1 := amts_take g.mon (k + 1) hlt
    have hk' : k < (amts l).length := by omega
    have e : (amts l)[k] = l[k].a := by simp [amts]
    have hs : ((amts l).take (k + 1)).sum = ((amts l).take k).sum + l[k].a := by rw [List.take_succ_eq_append_getElem hk', List.sum_append, e]; simp
    have w2 : IntKind.i64.wrap (((amts l).take k).sum + l[k].a) = ((amts l).take (k + 1)).sum := by rw [hs] at b1 ⊢; exact wrap_small (by omega) (by omega)
    simp only [encB] at c4
    simp [wpk_skip, wpk_seq, k_cond, wpk_block, wpk_exit, wpk_ret, wpk_loop, k_ops, k_draw0, t_nil, t_cons, KT_eq, KD_eq, wpo_nil, k_cons, k_step, mt_some, mtk_some, KO_eq, KP_eq, K_normal, K_ret, K_exit, KB_normal, KB_ret, KB_exit, KL_normal, KL_ret, KL_exit, k_ret, k_normal, stepE, isCall, calleeE, opE, wantE, odE, odS, odL, odSL, fget, fput, initE, keepF, List.map_cons, List.map_nil, binE, intOp, strOp, shOp, unE, eqpE, eqnE, neqB, ressE, resE, packL, packE, flat1, fcells, fillE, setL, cellsOf_bind, cellsO_own, cellsO_ro, lenE_sl, lenE_nils, lenE_sl0, bound, rep, minE, maxE, List.getElem?_cons_zero, List.getElem?_cons_succ, get_lt, set_lt, get_len, get_len_add, set_len, set_len_add, List.append_assoc, List.cons_append, List.nil_append, -getElem?_pos, l53_0_2, l53_0_1, l53_0, hlt, c1, c2, c3, c4, c5, w2, w3]
    exact ⟨_, by omega, hI _ _ _ ⟨gr.app _, k + 1, hlt, rfl, rfl⟩⟩
  · obtain rfl : k = l.length := by omega
    have e : (amts l).take l.length = amts l := by rw [← hll, List.take_length]
    simp [wpk_skip, wpk_seq, k_cond, wpk_block, wpk_exit, wpk_ret, wpk_loop, k_ops, k_draw0, t_nil, t_cons, KT_eq, KD_eq, wpo_nil, k_cons, k_step, mt_some, mtk_some, KO_eq, KP_eq, K_normal, K_ret, K_exit, KB_normal, KB_ret, KB_exit, KL_normal, KL_ret, KL_exit, k_ret, k_normal, stepE, isCall, calleeE, opE, wantE, odE, odS, odL, odSL, fget, fput, initE, keepF, List.map_cons, List.map_nil, binE, intOp, strOp, shOp, unE, eqpE, eqnE, neqB, ressE, resE, packL, packE, flat1, fcells, fillE, setL, cellsOf_bind, cellsO_own, cellsO_ro, lenE_sl, lenE_nils, lenE_sl0, bound, rep, minE, maxE, List.getElem?_cons_zero, List.getElem?_cons_succ, get_lt, set_lt, get_len, get_len_add, set_len, set_len_add, List.append_assoc, List.cons_append, List.nil_append, -getElem?_pos, l53_0_2, l53_0_1, l53_0, hlt, e]
    exact hΨ _ _ ⟨gr, rfl⟩
end Go.Proofs.Ytcimcccnhbbncaa.Ev.CE
