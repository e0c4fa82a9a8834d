/- Bytes as commands: the reader, on the small machine. -/
import Derived.Test.YtbgfcgmbihhlbaaDoorWrB
set_option linter.unusedSimpArgs false
set_option linter.unusedVariables false
namespace Go.Proofs.YtbgfcgmbihhlbaaDoor.Ev.CW
open Go
open CK (Cm encC fieldsL fieldsB okC cmOf_enc)

theorem Rd.take {α : Type} {h : LH} {t z : Nat} {enc : α → List SV} {i p p' o n : Nat} {l : List α} (he : ∀ a, (enc a).length = z) (r : Rd h t z enc (.sl i p o n) l) {m : Nat} (hm : m ≤ l.length) : Rd h t z enc (.sl i p' o m) (l.take m) := by
  rcases r with ⟨_, e | ⟨_, _, _, e⟩⟩ | ⟨i', q, o', ob, vs, r1, r2, r3, r4, r5⟩
  · cases e
  · cases e
  · simp only [SV.sl.injEq] at r1
    obtain ⟨rfl, rfl, rfl, rfl⟩ := r1
    have hl : (l.take m).length = m := by simp; omega
    have hz : m * z ≤ l.length * z := Nat.mul_le_mul_right _ hm
    refine .inr ⟨i, p', o, ob, vs, by rw [hl], r2, r3, ?_, ?_⟩
    · rw [hl, Nat.add_mul]; rw [Nat.add_mul] at r4; omega
    · rw [hl, ← flat_take he, ← r5, List.take_take, Nat.min_eq_left hz]

theorem Rd.drop {α : Type} {h : LH} {t z : Nat} {enc : α → List SV} {i p p' o n : Nat} {l : List α} (he : ∀ a, (enc a).length = z) (r : Rd h t z enc (.sl i p o n) l) {m : Nat} (hm : m ≤ l.length) : Rd h t z enc (.sl i p' (o + m) (n - m)) (l.drop m) := by
  rcases r with ⟨_, e | ⟨_, _, _, e⟩⟩ | ⟨i', q, o', ob, vs, r1, r2, r3, r4, r5⟩
  · cases e
  · cases e
  · simp only [SV.sl.injEq] at r1
    obtain ⟨rfl, rfl, rfl, rfl⟩ := r1
    have hl : (l.drop m).length = l.length - m := by simp
    have e1 : (o + m) * z = o * z + m * z := Nat.add_mul _ _ _
    have e2 : (o + l.length) * z = o * z + l.length * z := Nat.add_mul _ _ _
    have e3 : m * z + (l.length - m) * z = l.length * z := by rw [← Nat.add_mul]; congr 1; omega
    have e4 : (o + m + (l.length - m)) * z = (o + l.length) * z := by congr 1; omega
    refine .inr ⟨i, p', o + m, ob, vs, by rw [hl], r2, r3, ?_, ?_⟩
    · rw [hl, e4]; exact r4
    · rw [hl, ← flat_drop he, ← r5, List.drop_take, List.drop_drop, e1]
      congr 1
      omega


/-- Bytes. -/
def isB (l : List Int) : Prop := ∀ x ∈ l, 0 ≤ x ∧ x < 256
/-- A reader: what is left, and whether it went wrong. -/
def Rr (h : LH) (i : Nat) (l : List Int) (bad : Bool) : Prop := ∃ v, h[i]? = some (.own 56 [v, .bool bad]) ∧ Rd h 5 1 encB v l ∧ ∀ j p o, v ≠ .sl0 j p o

theorem Rd.but {h h' : LH} {i : Nat} {v : SV} {l : List Int} {x : List SV} (r : Rd h 5 1 encB v l) (hi : h[i]? = some (.own 56 x)) (g : GrBut i h h') : Rd h' 5 1 encB v l := by
  rcases r with r | ⟨j, p, o, ob, vs, r1, r2, r3, r4⟩
  · exact .inl r
  · refine .inr ⟨j, p, o, ob, vs, r1, g.get (fun e => ?_) r2, r3, r4⟩
    subst e
    obtain rfl := Option.some.inj (r2.symm.trans hi)
    cases r3
theorem Rr.gr {h h' : LH} {i : Nat} {l : List Int} {bad : Bool} (r : Rr h i l bad) (g : Gr h h') : Rr h' i l bad := by
  obtain ⟨v, r1, r2, r3⟩ := r
  exact ⟨v, g.get r1, r2.gr g, r3⟩

/-- Some bytes are taken. -/
def takeF (n : Int) (l : List Int) (bad : Bool) : Bool := bad || decide (n > l.length)
theorem take_ok {h : LH} {i : Nat} {l : List Int} {bad : Bool} (r : Rr h i l bad) (n : Int) (hn : 0 ≤ n) :
    WPc C 43 [.s (.ptr i 0), .s (.int .i64 n)] h fun u h' => GrBut i h h' ∧ ∃ w, u = .s w ∧ (∀ j p o, w ≠ .sl0 j p o) ∧ ((takeF n l bad = true ∧ Rd h' 5 1 encB w [] ∧ Rr h' i l true) ∨ (takeF n l bad = false ∧ Rd h' 5 1 encB w (l.take n.toNat) ∧ Rr h' i (l.drop n.toNat) false)) := by
  refine WPc.post fun Ψ hΨ => ?_
  refine WPc.intro (e := e43) rfl (by simp [e43]) ?_
  show WPk C b43 _ _ (KR [.tmp 4] _)
  obtain ⟨v, r1, r2, r3⟩ := r
  have rl := r2.len
  have hil := lt_of_some r1
  unfold takeF at hΨ
  have nil : ∀ h' : LH, Rd h' 5 1 encB .nils [] := fun h' => .inl ⟨rfl, .inl rfl⟩
  cases bad with
  | true =>
    simp [wpk_skip, wpk_seq, k_cond, wpk_block, wpk_exit, wpk_ret, wpk_goto, wpk_label, wpk_loop, k_ops, k_draw0, t_nil, t_cons, KT_eq, KD_eq, wpo_nil, k_cons, k_step, mt_some, mtk_some, KO_eq, KP_eq, K_normal, K_ret, K_exit, KB_normal, KB_ret, KB_exit, KL_normal, KL_ret, KL_exit, K_goto, KB_goto, KL_goto, KS_goto, KS_ret, KS_normal, KS_exit, k_ret, k_normal, stepE, isCall, calleeE, opE, wantE, odE, odS, odL, odSL, fget, fput, initE, keepF, List.map_cons, List.map_nil, binE, intOp, strOp, shOp, unE, eqpE, eqnE, neqB, ressE, resE, packL, packE, flat1, fcells, fillE, setL, cellsOf_bind, cellsO_own, cellsO_ro, lenE_sl, lenE_nils, lenE_sl0, bound, rep, minE, maxE, Option.getD_some, Option.getD_none, isKey, nlS, List.getElem?_cons_zero, List.getElem?_cons_succ, get_lt, set_lt, get_len, get_len_add, set_len, set_len_add, List.append_assoc, List.cons_append, List.nil_append, -getElem?_pos, b43, s43_4, s43_3, s43_2, s43_1, r1]
    refine hΨ _ _ ⟨GrBut.set (Gr.refl _) _, .nils, rfl, (fun j p o e => by cases e), .inl ⟨rfl, nil _, v, get_self hil, Rd.but r2 r1 (GrBut.set (Gr.refl _) _), r3⟩⟩
  | false =>
    by_cases hgt : n > l.length
    · rw [decide_eq_true hgt] at hΨ
      have hgt' : (l.length : Int) < n := hgt
      simp [wpk_skip, wpk_seq, k_cond, wpk_block, wpk_exit, wpk_ret, wpk_goto, wpk_label, wpk_loop, k_ops, k_draw0, t_nil, t_cons, KT_eq, KD_eq, wpo_nil, k_cons, k_step, mt_some, mtk_some, KO_eq, KP_eq, K_normal, K_ret, K_exit, KB_normal, KB_ret, KB_exit, KL_normal, KL_ret, KL_exit, K_goto, KB_goto, KL_goto, KS_goto, KS_ret, KS_normal, KS_exit, k_ret, k_normal, stepE, isCall, calleeE, opE, wantE, odE, odS, odL, odSL, fget, fput, initE, keepF, List.map_cons, List.map_nil, binE, intOp, strOp, shOp, unE, eqpE, eqnE, neqB, ressE, resE, packL, packE, flat1, fcells, fillE, setL, cellsOf_bind, cellsO_own, cellsO_ro, lenE_sl, lenE_nils, lenE_sl0, bound, rep, minE, maxE, Option.getD_some, Option.getD_none, isKey, nlS, List.getElem?_cons_zero, List.getElem?_cons_succ, get_lt, set_lt, get_len, get_len_add, set_len, set_len_add, List.append_assoc, List.cons_append, List.nil_append, -getElem?_pos, b43, s43_4, s43_3, s43_2, s43_1, r1, rl, hgt, hgt']
      refine hΨ _ _ ⟨GrBut.set (Gr.refl _) _, .nils, rfl, (fun j p o e => by cases e), .inl ⟨rfl, nil _, v, get_self hil, Rd.but r2 r1 (GrBut.set (Gr.refl _) _), r3⟩⟩
    · rw [decide_eq_false hgt] at hΨ
      have hgt' : ¬ (l.length : Int) < n := hgt
      obtain ⟨k, rfl⟩ : ∃ k : Nat, n = k := ⟨n.toNat, by omega⟩
      have hk : k ≤ l.length := by omega
      have hk0 : (0 : Int) ≤ k := by omega
      rw [Int.toNat_natCast] at hΨ
      have r2' := r2
      rcases r2' with ⟨rfl, rfl | ⟨j, p, o, rfl⟩⟩ | ⟨j, p, o, ob, vs, rfl, q2, q3, q4, q5⟩
      · obtain rfl : k = 0 := by simpa using hk
        simp [wpk_skip, wpk_seq, k_cond, wpk_block, wpk_exit, wpk_ret, wpk_goto, wpk_label, wpk_loop, k_ops, k_draw0, t_nil, t_cons, KT_eq, KD_eq, wpo_nil, k_cons, k_step, mt_some, mtk_some, KO_eq, KP_eq, K_normal, K_ret, K_exit, KB_normal, KB_ret, KB_exit, KL_normal, KL_ret, KL_exit, K_goto, KB_goto, KL_goto, KS_goto, KS_ret, KS_normal, KS_exit, k_ret, k_normal, stepE, isCall, calleeE, opE, wantE, odE, odS, odL, odSL, fget, fput, initE, keepF, List.map_cons, List.map_nil, binE, intOp, strOp, shOp, unE, eqpE, eqnE, neqB, ressE, resE, packL, packE, flat1, fcells, fillE, setL, cellsOf_bind, cellsO_own, cellsO_ro, lenE_sl, lenE_nils, lenE_sl0, bound, rep, minE, maxE, Option.getD_some, Option.getD_none, isKey, nlS, List.getElem?_cons_zero, List.getElem?_cons_succ, get_lt, set_lt, get_len, get_len_add, set_len, set_len_add, List.append_assoc, List.cons_append, List.nil_append, -getElem?_pos, b43, s43_4, s43_3, s43_2, s43_1, r1]
        refine hΨ _ _ ⟨GrBut.set (Gr.refl _) _, .nils, rfl, (fun j p o e => by cases e), .inr ⟨rfl, nil _, .nils, get_self hil, nil _, (fun j p o e => by cases e)⟩⟩
      · exact absurd rfl (r3 _ _ _)
      · have hji : j ≠ i := fun e => by
          subst e
          obtain rfl := Option.some.inj (q2.symm.trans r1)
          cases q3
        have g := GrBut.set (Gr.refl h) (i := i) (.own 56 [.sl j (if k = 0 then p else o) (o + k) (l.length - k), .bool false])
        have d := Rd.drop (p' := if k = 0 then p else o) encB_len r2 hk
        have t := Rd.take (p' := p) encB_len r2 hk
        have d' := Rd.but d r1 g
        have t' := Rd.but t r1 g
        simp [wpk_skip, wpk_seq, k_cond, wpk_block, wpk_exit, wpk_ret, wpk_goto, wpk_label, wpk_loop, k_ops, k_draw0, t_nil, t_cons, KT_eq, KD_eq, wpo_nil, k_cons, k_step, mt_some, mtk_some, KO_eq, KP_eq, K_normal, K_ret, K_exit, KB_normal, KB_ret, KB_exit, KL_normal, KL_ret, KL_exit, K_goto, KB_goto, KL_goto, KS_goto, KS_ret, KS_normal, KS_exit, k_ret, k_normal, stepE, isCall, calleeE, opE, wantE, odE, odS, odL, odSL, fget, fput, initE, keepF, List.map_cons, List.map_nil, binE, intOp, strOp, shOp, unE, eqpE, eqnE, neqB, ressE, resE, packL, packE, flat1, fcells, fillE, setL, cellsOf_bind, cellsO_own, cellsO_ro, lenE_sl, lenE_nils, lenE_sl0, bound, rep, minE, maxE, Option.getD_some, Option.getD_none, isKey, nlS, List.getElem?_cons_zero, List.getElem?_cons_succ, get_lt, set_lt, get_len, get_len_add, set_len, set_len_add, List.append_assoc, List.cons_append, List.nil_append, -getElem?_pos, b43, s43_4, s43_3, s43_2, s43_1, r1, rl, hgt, hgt', hk, hk0, hji, q2, q3]
        refine hΨ _ _ ⟨g, _, rfl, (fun j p o e => by cases e), .inr ⟨rfl, t', _, get_self hil, d', (fun j p o e => by cases e)⟩⟩

/-! ### Numbers out of bytes -/
theorem or_byte {a b : Int} (ha : 0 ≤ a ∧ a < 18446744073709551616) (h256 : a % 256 = 0) (hb : 0 ≤ b ∧ b < 256) : IntKind.u64.wrap (((BitVec.ofInt IntKind.u64.bits a ||| BitVec.ofInt IntKind.u64.bits b).toNat : Nat) : Int) = a + b := by
  obtain ⟨q, hq⟩ : ∃ q : Nat, a = ((q * 256 : Nat) : Int) := ⟨(a / 256).toNat, by omega⟩
  obtain ⟨c, rfl⟩ : ∃ c : Nat, b = c := ⟨b.toNat, by omega⟩
  subst hq
  have hc : c < 2 ^ 8 := by omega
  have e := Nat.shiftLeft_add_eq_or_of_lt hc q
  rw [Nat.shiftLeft_eq] at e
  have hbits : IntKind.u64.bits = 64 := rfl
  rw [hbits, BitVec.toNat_or, BitVec.ofInt_natCast, BitVec.ofInt_natCast, BitVec.toNat_ofNat, BitVec.toNat_ofNat, Nat.mod_eq_of_lt (by omega), Nat.mod_eq_of_lt (by omega)]
  have e' : q * 256 ||| c = q * 256 + c := e.symm
  rw [e']
  simp [IntKind.wrap, IntKind.bits, IntKind.signed]
  omega
def vF (l : List Int) : Int := l.foldl (fun a b => a * 256 % 18446744073709551616 + b) 0
theorem vF_snoc (l : List Int) (b : Int) : vF (l ++ [b]) = vF l * 256 % 18446744073709551616 + b := by
  unfold vF; rw [List.foldl_append]; rfl
theorem vF_range : ∀ {l : List Int}, isB l → ∀ a, (0 ≤ a ∧ a < 18446744073709551616) → 0 ≤ l.foldl (fun a b => a * 256 % 18446744073709551616 + b) a ∧ l.foldl (fun a b => a * 256 % 18446744073709551616 + b) a < 18446744073709551616
  | [], _, a, ha => ha
  | b :: l, hb, a, ha => by
    rw [List.foldl_cons]
    have := hb b List.mem_cons_self
    exact vF_range (fun x hx => hb x (List.mem_cons_of_mem _ hx)) _ (by omega)
def toI (v : Int) : Int := IntKind.i64.wrap v
theorem vF_num8 (n : Int) (h : -9223372036854775808 ≤ n ∧ n < 9223372036854775808) : toI (vF (num8 n)) = n := by
  obtain ⟨N, hN⟩ : ∃ N, N = n % 18446744073709551616 := ⟨_, rfl⟩
  have hr : 0 ≤ N ∧ N < 18446744073709551616 := by omega
  have e0 : n / 72057594037927936 % 256 = N / 72057594037927936 % 256 := by rw [hN]; omega
  have s0 : (0) * 256 % 18446744073709551616 + N / 72057594037927936 % 256 = N / 72057594037927936 := by
    clear hN h
    omega
  have e1 : n / 281474976710656 % 256 = N / 281474976710656 % 256 := by rw [hN]; omega
  have s1 : (N / 72057594037927936) * 256 % 18446744073709551616 + N / 281474976710656 % 256 = N / 281474976710656 := by
    clear hN h
    omega
  have e2 : n / 1099511627776 % 256 = N / 1099511627776 % 256 := by rw [hN]; omega
  have s2 : (N / 281474976710656) * 256 % 18446744073709551616 + N / 1099511627776 % 256 = N / 1099511627776 := by
    clear hN h
    omega
  have e3 : n / 4294967296 % 256 = N / 4294967296 % 256 := by rw [hN]; omega
  have s3 : (N / 1099511627776) * 256 % 18446744073709551616 + N / 4294967296 % 256 = N / 4294967296 := by
    clear hN h
    omega
  have e4 : n / 16777216 % 256 = N / 16777216 % 256 := by rw [hN]; omega
  have s4 : (N / 4294967296) * 256 % 18446744073709551616 + N / 16777216 % 256 = N / 16777216 := by
    clear hN h
    omega
  have e5 : n / 65536 % 256 = N / 65536 % 256 := by rw [hN]; omega
  have s5 : (N / 16777216) * 256 % 18446744073709551616 + N / 65536 % 256 = N / 65536 := by
    clear hN h
    omega
  have e6 : n / 256 % 256 = N / 256 % 256 := by rw [hN]; omega
  have s6 : (N / 65536) * 256 % 18446744073709551616 + N / 256 % 256 = N / 256 := by
    clear hN h
    omega
  have e7 : n % 256 = N / 1 % 256 := by rw [hN]; omega
  have s7 : (N / 256) * 256 % 18446744073709551616 + N / 1 % 256 = N := by
    clear hN h
    omega
  have e : vF (num8 n) = N := by
    unfold vF num8
    simp only [List.foldl_cons, List.foldl_nil]
    rw [e0, s0, e1, s1, e2, s2, e3, s3, e4, s4, e5, s5, e6, s6, e7, s7]
  rw [e]
  unfold toI
  simp [IntKind.wrap, IntKind.bits, IntKind.signed]
  omega
theorem toI_small {v : Int} (h : 0 ≤ v ∧ v < 256) : toI v = v := by
  unfold toI; simp [IntKind.wrap, IntKind.bits, IntKind.signed]; omega

theorem count_ok {h : LH} {i : Nat} {l : List Int} {bad : Bool} (r : Rr h i l bad) (hb : isB l) (hl : l.length < 9223372036854775807) (n : Nat) :
    WPc C 42 [.s (.ptr i 0), .s (.int .i64 n)] h fun u h' => GrBut i h h' ∧ ((takeF n l bad = true ∧ u = .s (.int .i64 0) ∧ Rr h' i l true) ∨ (takeF n l bad = false ∧ u = .s (.int .i64 (toI (vF (l.take n)))) ∧ Rr h' i (l.drop n) false)) := by
  refine WPc.post fun Ψ hΨ => ?_
  refine WPc.intro (e := e42) rfl (by simp [e42]) ?_
  show WPk C b42 _ _ (KR [.tmp 4] _)
  simp [wpk_skip, wpk_seq, k_cond, wpk_block, wpk_exit, wpk_ret, wpk_goto, wpk_label, wpk_loop, k_ops, k_draw0, t_nil, t_cons, KT_eq, KD_eq, wpo_nil, k_cons, k_step, mt_some, mtk_some, KO_eq, KP_eq, K_normal, K_ret, K_exit, KB_normal, KB_ret, KB_exit, KL_normal, KL_ret, KL_exit, K_goto, KB_goto, KL_goto, KS_goto, KS_ret, KS_normal, KS_exit, k_ret, k_normal, stepE, isCall, calleeE, opE, wantE, odE, odS, odL, odSL, fget, fput, initE, keepF, List.map_cons, List.map_nil, binE, intOp, strOp, shOp, unE, eqpE, eqnE, neqB, ressE, resE, packL, packE, flat1, fcells, fillE, setL, cellsOf_bind, cellsO_own, cellsO_ro, lenE_sl, lenE_nils, lenE_sl0, bound, rep, minE, maxE, Option.getD_some, Option.getD_none, isKey, nlS, List.getElem?_cons_zero, List.getElem?_cons_succ, get_lt, set_lt, get_len, get_len_add, set_len, set_len_add, List.append_assoc, List.cons_append, List.nil_append, -getElem?_pos, b42, s42_3, s42_2, s42_1]
  refine WPc.go (take_ok r n (by omega)) ?_
  rintro _ h1 ⟨g1, w, rfl, hs0, hr⟩
  rw [Int.toNat_natCast] at hr
  obtain ⟨L, hLb, hLl, hrd, hfin⟩ : ∃ L : List Int, isB L ∧ L.length ≤ l.length ∧ Rd h1 5 1 encB w L ∧ Ψ (.s (.int .i64 (toI (vF L)))) h1 := by
    rcases hr with ⟨e1, e2, e3⟩ | ⟨e1, e2, e3⟩
    · exact ⟨[], (fun x hx => by cases hx), by simp, e2, hΨ _ _ ⟨g1, .inl ⟨e1, rfl, e3⟩⟩⟩
    · exact ⟨l.take n, fun x hx => hb x (List.mem_of_mem_take hx), by rw [List.length_take]; omega, e2, hΨ _ _ ⟨g1, .inr ⟨e1, rfl, e3⟩⟩⟩
  simp [wpk_skip, wpk_seq, k_cond, wpk_block, wpk_exit, wpk_ret, wpk_goto, wpk_label, wpk_loop, k_ops, k_draw0, t_nil, t_cons, KT_eq, KD_eq, wpo_nil, k_cons, k_step, mt_some, mtk_some, KO_eq, KP_eq, K_normal, K_ret, K_exit, KB_normal, KB_ret, KB_exit, KL_normal, KL_ret, KL_exit, K_goto, KB_goto, KL_goto, KS_goto, KS_ret, KS_normal, KS_exit, k_ret, k_normal, stepE, isCall, calleeE, opE, wantE, odE, odS, odL, odSL, fget, fput, initE, keepF, List.map_cons, List.map_nil, binE, intOp, strOp, shOp, unE, eqpE, eqnE, neqB, ressE, resE, packL, packE, flat1, fcells, fillE, setL, cellsOf_bind, cellsO_own, cellsO_ro, lenE_sl, lenE_nils, lenE_sl0, bound, rep, minE, maxE, Option.getD_some, Option.getD_none, isKey, nlS, List.getElem?_cons_zero, List.getElem?_cons_succ, get_lt, set_lt, get_len, get_len_add, set_len, set_len_add, List.append_assoc, List.cons_append, List.nil_append, -getElem?_pos, hrd.len]
  refine WPl.inv2 (fun m fr h' => h' = h1 ∧ ∃ k, k ≤ L.length ∧ m = L.length - k ∧ fr = [(5, some (.s (.int .u64 (vF (L.take k))))), (10, some (.s w)), (11, some (.s (.int .i64 L.length))), (12, some (.s (.int .i64 k)))]) ?_ _ _ _ ⟨rfl, 0, Nat.zero_le _, rfl, rfl⟩
  rintro I hI m fr h' ⟨rfl, k, hk, rfl, rfl⟩
  refine ⟨by simp [keepF, fget], ?_⟩
  by_cases hlt : k < L.length
  · obtain ⟨j, p, o, ob, vs, rfl, q2, q3, q4⟩ := hrd.at1 (f := .int .u8) (fun _ => rfl) hlt
    have w3 : IntKind.i64.wrap ((k : Int) + 1) = ((k + 1 : Nat) : Int) := wrap_small (by omega) (by omega)
    have ht : L.take (k + 1) = L.take k ++ [L[k]] := List.take_succ_eq_append_getElem hlt
    have hx := hLb _ (List.getElem_mem hlt)
    have hv := vF_range (l := L.take k) (fun x hx => hLb x (List.mem_of_mem_take hx)) 0 (by decide)
    change 0 ≤ vF (L.take k) ∧ vF (L.take k) < 18446744073709551616 at hv
    generalize L[k] = x at *
    generalize hV : vF (L.take k) = V at *
    have hV2 : vF (L.take (k + 1)) = V * 256 % 18446744073709551616 + x := by rw [ht, vF_snoc, hV]
    have wx : IntKind.u64.wrap x = x := by simp [IntKind.wrap, IntKind.bits, IntKind.signed]; omega
    have wv : IntKind.u64.wrap (V * 2 ^ min ((8 : Int)).toNat IntKind.u64.bits) = V * 256 % 18446744073709551616 := by simp [IntKind.wrap, IntKind.bits, IntKind.signed]
    have wo := or_byte (a := V * 256 % 18446744073709551616) (b := x) (by omega) (by omega) hx
    have n8 : ¬ (8 : Int) < 0 := by decide
    have wv' : IntKind.u64.wrap (V * 2 ^ min 8 IntKind.u64.bits) = V * 256 % 18446744073709551616 := by simp [IntKind.wrap, IntKind.bits, IntKind.signed]
    have fin := hI _ _ _ (show _ ∧ _ from ⟨rfl, k + 1, hlt, rfl, rfl⟩)
    rw [hV2] at fin
    simp [wpk_skip, wpk_seq, k_cond, wpk_block, wpk_exit, wpk_ret, wpk_goto, wpk_label, wpk_loop, k_ops, k_draw0, t_nil, t_cons, KT_eq, KD_eq, wpo_nil, k_cons, k_step, mt_some, mtk_some, KO_eq, KP_eq, K_normal, K_ret, K_exit, KB_normal, KB_ret, KB_exit, KL_normal, KL_ret, KL_exit, K_goto, KB_goto, KL_goto, KS_goto, KS_ret, KS_normal, KS_exit, k_ret, k_normal, stepE, isCall, calleeE, opE, wantE, odE, odS, odL, odSL, fget, fput, initE, keepF, List.map_cons, List.map_nil, binE, intOp, strOp, shOp, unE, eqpE, eqnE, neqB, ressE, resE, packL, packE, flat1, fcells, fillE, setL, cellsOf_bind, cellsO_own, cellsO_ro, lenE_sl, lenE_nils, lenE_sl0, bound, rep, minE, maxE, Option.getD_some, Option.getD_none, isKey, nlS, List.getElem?_cons_zero, List.getElem?_cons_succ, get_lt, set_lt, get_len, get_len_add, set_len, set_len_add, List.append_assoc, List.cons_append, List.nil_append, -getElem?_pos, l42_0_2, l42_0_1, l42_0, hlt, q2, q3, q4, shOp, wx, wv, wv', wo, n8, w3, -BitVec.toNat_or, -BitVec.toNat_ofInt]
    exact ⟨L.length - (k + 1), by omega, fin⟩
  · obtain rfl : k = L.length := by omega
    rw [List.take_length]
    simp [wpk_skip, wpk_seq, k_cond, wpk_block, wpk_exit, wpk_ret, wpk_goto, wpk_label, wpk_loop, k_ops, k_draw0, t_nil, t_cons, KT_eq, KD_eq, wpo_nil, k_cons, k_step, mt_some, mtk_some, KO_eq, KP_eq, K_normal, K_ret, K_exit, KB_normal, KB_ret, KB_exit, KL_normal, KL_ret, KL_exit, K_goto, KB_goto, KL_goto, KS_goto, KS_ret, KS_normal, KS_exit, k_ret, k_normal, stepE, isCall, calleeE, opE, wantE, odE, odS, odL, odSL, fget, fput, initE, keepF, List.map_cons, List.map_nil, binE, intOp, strOp, shOp, unE, eqpE, eqnE, neqB, ressE, resE, packL, packE, flat1, fcells, fillE, setL, cellsOf_bind, cellsO_own, cellsO_ro, lenE_sl, lenE_nils, lenE_sl0, bound, rep, minE, maxE, Option.getD_some, Option.getD_none, isKey, nlS, List.getElem?_cons_zero, List.getElem?_cons_succ, get_lt, set_lt, get_len, get_len_add, set_len, set_len_add, List.append_assoc, List.cons_append, List.nil_append, -getElem?_pos, l42_0_2, l42_0_1, l42_0, hlt]
    exact hfin
end Go.Proofs.YtbgfcgmbihhlbaaDoor.Ev.CW
