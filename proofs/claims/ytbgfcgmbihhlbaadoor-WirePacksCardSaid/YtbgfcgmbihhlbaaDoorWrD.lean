/- Bytes as a command, on the small machine. -/
import Derived.Test.YtbgfcgmbihhlbaaDoorWrC
set_option linter.unusedSimpArgs false
set_option linter.unusedVariables false
namespace Go.Proofs.YtbgfcgmbihhlbaaDoor.Ev.CW
open Go
open CK (Cm encC fieldsL fieldsB okC cmOf_enc)

abbrev St := List Int × Bool
def cntF (n : Nat) (s : St) : Int × St := if takeF n s.1 s.2 then (0, s.1, true) else (toI (vF (s.1.take n)), s.1.drop n, false)
def bytesS (l : List Int) : ByteArray := ⟨(l.map fun n => UInt8.ofNat n.toNat).toArray⟩
def takeS (n : Int) (s : St) : ByteArray × St := if takeF n s.1 s.2 then (⟨#[]⟩, s.1, true) else (bytesS (s.1.take n.toNat), s.1.drop n.toNat, false)
def setS (m : Cm) (f : UInt8) (s : ByteArray) : Cm := if f = 73 then { m with a := s } else if f = 75 then { m with b := s } else { m with j := s }
def setN (m : Cm) (f : Int) (n : Int) : Cm := if f = 67 then { m with c := n } else if f = 68 then { m with d := n } else if f = 89 then { m with y := n } else if f = 90 then { m with z := n } else if f = 80 then { m with p := n } else if f = 65 then { m with n := n } else if f = 82 then { m with r := n } else { m with x := n }
def stepF (q : Cm × St) (f : UInt8) : Cm × St :=
  if f = 73 ∨ f = 75 ∨ f = 74 then (setS q.1 f (takeS (cntF 1 q.2).1 (cntF 1 q.2).2).1, (takeS (cntF 1 q.2).1 (cntF 1 q.2).2).2) else (setN q.1 f.toNat (cntF 8 q.2).1, (cntF 8 q.2).2)
def zeroC (k : Int) : Cm := ⟨k, ⟨#[]⟩, ⟨#[]⟩, ⟨#[]⟩, 0, 0, 0, 0, 0, 0, 0, 0⟩
def commandF (s : St) : Cm × St := (fieldsL (cntF 1 s).1).foldl stepF (zeroC (cntF 1 s).1, (cntF 1 s).2)

theorem cntF_sub (n : Nat) (s : St) (hb : isB s.1) : isB (cntF n s).2.1 ∧ (cntF n s).2.1.length ≤ s.1.length := by
  unfold cntF
  split
  · exact ⟨hb, Nat.le_refl _⟩
  · exact ⟨fun x hx => hb x (List.mem_of_mem_drop hx), by simp only [List.length_drop]; omega⟩
theorem takeS_sub (n : Int) (s : St) (hb : isB s.1) : isB (takeS n s).2.1 ∧ (takeS n s).2.1.length ≤ s.1.length := by
  unfold takeS
  split
  · exact ⟨hb, Nat.le_refl _⟩
  · exact ⟨fun x hx => hb x (List.mem_of_mem_drop hx), by simp only [List.length_drop]; omega⟩
theorem cnt1_byte (s : St) (hb : isB s.1) : 0 ≤ (cntF 1 s).1 ∧ (cntF 1 s).1 < 256 := by
  unfold cntF
  split
  · exact ⟨Int.le_refl _, by show (0 : Int) < 256; decide⟩
  · rename_i h
    cases hl : s.1 with
    | nil =>
      unfold takeF at h
      rw [hl] at h
      simp at h
    | cons x r =>
      have hx := hb x (by rw [hl]; exact List.mem_cons_self)
      have e : vF ([x] : List Int) = x := by unfold vF; simp
      simp only [List.take_succ_cons, List.take_zero, e]
      rw [toI_small hx]; exact hx
theorem setS_enc {m : Cm} {f : UInt8} {i : Nat} (h : f = 73 ∨ f = 75 ∨ f = 74) (s : ByteArray) : ∃ o, wordV i (f.toNat : Int) = .ptr i o ∧ o + 1 ≤ 12 ∧ (encC m).set o (.str s) = encC (setS m f s) := by
  rcases h with rfl | rfl | rfl
  · exact ⟨1, rfl, by decide, rfl⟩
  · exact ⟨2, rfl, by decide, rfl⟩
  · exact ⟨3, rfl, by decide, rfl⟩
theorem setN_enc (m : Cm) (f n : Int) : placeN f + 1 ≤ 12 ∧ (encC m).set (placeN f) (.int .i64 n) = encC (setN m f n) := by
  unfold placeN setN
  repeat' split
  all_goals exact ⟨by decide, rfl⟩
theorem bytesOf_enc : ∀ (l : List Int), bytesOf (l.flatMap encB) = some (l.map fun n => UInt8.ofNat n.toNat)
  | [] => rfl
  | x :: l => by
    rw [List.flatMap_cons]
    show bytesOf (.int .u8 x :: l.flatMap encB) = _
    simp only [bytesOf, bytesOf_enc l, Option.map_some, List.map_cons]
theorem GrBut.set2 {i j : Nat} {h h' : LH} (g : GrBut i h h') (hj : h.length ≤ j) (o : LO) : GrBut i h (h'.set j o) := ⟨by rw [List.length_set]; exact g.le, fun k hk hne => by rw [get_ne (by omega)]; exact g.same k hk hne⟩
theorem GrBut.app {i : Nat} {h h' : LH} (g : GrBut i h h') (r : LH) : GrBut i h (h' ++ r) := ⟨by rw [List.length_append]; have := g.le; omega, fun k hk hne => by rw [get_lt (Nat.lt_of_lt_of_le hk g.le)]; exact g.same k hk hne⟩
theorem Rr.set {h : LH} {i j : Nat} {l : List Int} {bad : Bool} (r : Rr h i l bad) {o o' : LO} (hj : h[j]? = some o) (hji : j ≠ i) (ho : cellsO o = none ∨ ∃ vs, cellsO o = some (23, vs)) : Rr (h.set j o') i l bad := by
  obtain ⟨v, r1, r2, r3⟩ := r
  refine ⟨v, by rw [get_ne hji]; exact r1, ?_, r3⟩
  rcases r2 with r2 | ⟨k, p, q, ob, vs, s1, s2, s3, s4⟩
  · exact .inl r2
  · refine .inr ⟨k, p, q, ob, vs, s1, ?_, s3, s4⟩
    have : j ≠ k := fun e => by
      subst e
      obtain rfl := Option.some.inj (s2.symm.trans hj)
      rcases ho with ho | ⟨_, ho⟩ <;> rw [ho] at s3 <;> cases s3
    rw [get_ne this]; exact s2

/-- A number of bytes, as it is read. -/
theorem cnt_call {h : LH} {i : Nat} {s : St} (r : Rr h i s.1 s.2) (hb : isB s.1) (hl : s.1.length < 9223372036854775807) (n : Nat) :
    WPc C 42 [.s (.ptr i 0), .s (.int .i64 n)] h fun u h' => GrBut i h h' ∧ u = .s (.int .i64 (cntF n s).1) ∧ Rr h' i (cntF n s).2.1 (cntF n s).2.2 := by
  refine (count_ok r hb hl n).mono ?_
  rintro u h' ⟨g, ⟨e1, e2, e3⟩ | ⟨e1, e2, e3⟩⟩
  · unfold cntF; rw [if_pos e1]; exact ⟨g, e2, e3⟩
  · unfold cntF; rw [if_neg (by rw [e1]; decide)]; exact ⟨g, e2, e3⟩
theorem take_call {h : LH} {i : Nat} {s : St} (r : Rr h i s.1 s.2) (n : Int) (hn : 0 ≤ n) :
    WPc C 43 [.s (.ptr i 0), .s (.int .i64 n)] h fun u h' => GrBut i h h' ∧ ∃ w L, u = .s w ∧ elems h' 5 1 w = some (L.flatMap encB) ∧ bytesS L = (takeS n s).1 ∧ Rr h' i (takeS n s).2.1 (takeS n s).2.2 := by
  refine (take_ok r n hn).mono ?_
  rintro u h' ⟨g, w, rfl, _, ⟨e1, e2, e3⟩ | ⟨e1, e2, e3⟩⟩
  · unfold takeS; rw [if_pos e1]; exact ⟨g, w, [], rfl, e2.elems, rfl, e3⟩
  · unfold takeS; rw [if_neg (by rw [e1]; decide)]; exact ⟨g, w, _, rfl, e2.elems, rfl, e3⟩

set_option maxRecDepth 20000 in
set_option maxHeartbeats 4000000 in
theorem command_ok {h : LH} {i : Nat} {s : St} (r : Rr h i s.1 s.2) (hb : isB s.1) (hl : s.1.length < 9223372036854775807) :
    WPc C 25 [.s (.ptr i 0)] h fun u h' => GrBut i h h' ∧ u = .tup [.agg (encC (commandF s).1), .s (.bool (!(commandF s).2.2 && okC (commandF s).1))] ∧ Rr h' i (commandF s).2.1 (commandF s).2.2 ∧ isB (commandF s).2.1 ∧ (commandF s).2.1.length ≤ s.1.length := by
  refine WPc.post fun Ψ hΨ => ?_
  refine WPc.intro (e := e25) rfl (by simp [e25]) ?_
  show WPk C b25 _ _ (KR [.cell 2 true 12, .tmp 3] _)
  have hi : i < h.length := by obtain ⟨v, r1, _⟩ := r; exact lt_of_some r1
  simp [wpk_skip, wpk_seq, k_cond, wpk_block, wpk_exit, wpk_ret, wpk_goto, wpk_label, wpk_loop, k_ops, k_draw0, t_nil, t_cons, KT_eq, KD_eq, wpo_nil, k_cons, k_step, mt_some, mtk_some, KO_eq, KP_eq, K_normal, K_ret, K_exit, KB_normal, KB_ret, KB_exit, KL_normal, KL_ret, KL_exit, K_goto, KB_goto, KL_goto, KS_goto, KS_ret, KS_normal, KS_exit, k_ret, k_normal, stepE, isCall, calleeE, opE, wantE, odE, odS, odL, odSL, fget, fput, initE, keepF, List.map_cons, List.map_nil, binE, intOp, strOp, shOp, unE, eqpE, eqnE, neqB, ressE, resE, packL, packE, flat1, fcells, fillE, setL, cellsOf_bind, cellsO_own, cellsO_ro, lenE_sl, lenE_nils, lenE_sl0, bound, rep, minE, maxE, Option.getD_some, Option.getD_none, isKey, nlS, List.getElem?_cons_zero, List.getElem?_cons_succ, get_lt, set_lt, get_len, get_len_add, set_len, set_len_add, List.append_assoc, List.cons_append, List.nil_append, -getElem?_pos, b25, s25_3, s25_2, s25_1]
  refine WPc.go (cnt_call (r.gr (Gr.self h _)) hb hl 1) ?_
  rintro _ h1 ⟨g1, rfl, r1⟩
  obtain ⟨b1, l1⟩ := cntF_sub 1 s hb
  have hk := cnt1_byte s hb
  unfold commandF at hΨ
  generalize cntF 1 s = Q at *
  obtain ⟨k0, s1⟩ := Q
  simp only at *
  have hres : h1[h.length]? = some (.own 23 (encC (zeroC 0))) := by rw [g1.same _ (by simp) (by omega)]; exact get_len
  have hl1 : h.length + 1 ≤ h1.length := by have := g1.le; simpa using this
  have el : (encC (zeroC k0)).length = 12 := rfl
  have est : setL [.int .i64 0, .str ⟨#[]⟩, .str ⟨#[]⟩, .str ⟨#[]⟩, .int .i64 0, .int .i64 0, .int .i64 0, .int .i64 0, .int .i64 0, .int .i64 0, .int .i64 0, .int .i64 0] 0 [.int .i64 k0, .str ⟨#[]⟩, .str ⟨#[]⟩, .str ⟨#[]⟩, .int .i64 0, .int .i64 0, .int .i64 0, .int .i64 0, .int .i64 0, .int .i64 0, .int .i64 0, .int .i64 0] = encC (zeroC k0) := rfl
  simp [wpk_skip, wpk_seq, k_cond, wpk_block, wpk_exit, wpk_ret, wpk_goto, wpk_label, wpk_loop, k_ops, k_draw0, t_nil, t_cons, KT_eq, KD_eq, wpo_nil, k_cons, k_step, mt_some, mtk_some, KO_eq, KP_eq, K_normal, K_ret, K_exit, KB_normal, KB_ret, KB_exit, KL_normal, KL_ret, KL_exit, K_goto, KB_goto, KL_goto, KS_goto, KS_ret, KS_normal, KS_exit, k_ret, k_normal, stepE, isCall, calleeE, opE, wantE, odE, odS, odL, odSL, fget, fput, initE, keepF, List.map_cons, List.map_nil, binE, intOp, strOp, shOp, unE, eqpE, eqnE, neqB, ressE, resE, packL, packE, flat1, fcells, fillE, setL, cellsOf_bind, cellsO_own, cellsO_ro, lenE_sl, lenE_nils, lenE_sl0, bound, rep, minE, maxE, Option.getD_some, Option.getD_none, isKey, nlS, List.getElem?_cons_zero, List.getElem?_cons_succ, get_lt, set_lt, get_len, get_len_add, set_len, set_len_add, List.append_assoc, List.cons_append, List.nil_append, -getElem?_pos, fields_ok]
  have gA : GrBut i h h1 := ⟨by have := g1.le; simp at this; omega, fun j hj hne => by rw [g1.same j (by simp; omega) hne, get_lt hj]⟩
  have hfl := fields_len k0
  -- the letters
  refine WPl.inv2 (fun n fr h' => GrBut i h h' ∧ ∃ (k : Nat) (c : Cm) (st : St), k ≤ (fieldsL k0).length ∧ n = (fieldsL k0).length - k ∧ ((fieldsL k0).drop k).foldl stepF (c, st) = (fieldsL k0).foldl stepF (zeroC k0, s1) ∧ h1.length + 1 < h'.length ∧
    h'[h.length]? = some (.own 23 (encC (zeroC 0))) ∧ h'[h1.length]? = some (.own 23 (encC c)) ∧ h'[h1.length + 1]? = some (.iter (fieldsB k0) k) ∧ Rr h' i st.1 st.2 ∧ isB st.1 ∧ st.1.length ≤ s.1.length ∧
    fr = [(0, some (.s (.ptr i 0))), (2, some (.s (.ptr h.length 0))), (4, some (.s (.ptr h1.length 0))), (14, some (.s (.ptr (h1.length + 1) 0)))]) ?_ _ _ _
    ⟨GrBut.app gA _, 0, zeroC k0, s1, Nat.zero_le _, rfl, rfl, by simp, by rw [get_lt (lt_of_some hres)]; exact hres, get_len, get_len_add, r1.gr (Gr.self _ _), b1, l1, rfl⟩
  rintro I hI n fr h' ⟨gr, k, c, st, hk1, rfl, hfold, hlen, hr2, hc, hit, rr, bb, ll, rfl⟩
  refine ⟨by simp [keepF, fget], ?_⟩
  have hc12 : (encC c).length = 12 := rfl
  by_cases hlt : k < (fieldsL k0).length
  · obtain ⟨b, hbk⟩ : ∃ b, (fieldsL k0)[k]? = some b := ⟨_, List.getElem?_eq_getElem hlt⟩
    have hb' : (fieldsB k0).data.toList[k]? = some b := by rw [fields_data]; exact hbk
    have ha := fields_ascii k0 b (List.mem_of_getElem? hbk)
    have hd : (fieldsL k0).drop k = b :: (fieldsL k0).drop (k + 1) := by
      rw [List.drop_eq_getElem_cons hlt]
      rw [List.getElem?_eq_getElem hlt] at hbk
      rw [Option.some.inj hbk]
    rw [hd, List.foldl_cons] at hfold
    -- the iterator is moved
    have hr3 : (h'.set (h1.length + 1) (.iter (fieldsB k0) (k + 1)))[h.length]? = some (.own 23 (encC (zeroC 0))) := by rw [get_ne (by omega)]; exact hr2
    have hc3 : (h'.set (h1.length + 1) (.iter (fieldsB k0) (k + 1)))[h1.length]? = some (.own 23 (encC c)) := by rw [get_ne (by omega)]; exact hc
    have hi3 : (h'.set (h1.length + 1) (.iter (fieldsB k0) (k + 1)))[h1.length + 1]? = some (.iter (fieldsB k0) (k + 1)) := get_self hlen
    have rr3 : Rr (h'.set (h1.length + 1) (.iter (fieldsB k0) (k + 1))) i st.1 st.2 := rr.set hit (by omega) (.inl rfl)
    have gr3 : GrBut i h (h'.set (h1.length + 1) (.iter (fieldsB k0) (k + 1))) := GrBut.set2 gr (by omega) _
    have hl3 : (h'.set (h1.length + 1) (.iter (fieldsB k0) (k + 1))).length = h'.length := List.length_set
    generalize hH : h'.set (h1.length + 1) (.iter (fieldsB k0) (k + 1)) = H at *
    have fin : ∀ (c' : Cm) (st' : St) (h2 : LH), stepF (c, st) b = (c', st') → GrBut i H h2 → Rr h2 i st'.1 st'.2 → isB st'.1 → st'.1.length ≤ s.1.length →
        ∃ n', n' < (fieldsL k0).length - k ∧ I n' [(0, some (.s (.ptr i 0))), (2, some (.s (.ptr h.length 0))), (4, some (.s (.ptr h1.length 0))), (14, some (.s (.ptr (h1.length + 1) 0)))] (h2.set h1.length (.own 23 (encC c'))) := by
      intro c' st' h2 hst g2 rr2 bb2 ll2
      rw [hst] at hfold
      have hc2 := g2.get (by omega) hc3
      have hcl := lt_of_some hc2
      refine ⟨(fieldsL k0).length - (k + 1), by omega, hI _ _ _ ⟨GrBut.set2 (gr3.trans g2) (by omega) _, k + 1, c', st', by omega, rfl, hfold, ?_, ?_, get_self hcl, ?_, rr2.set hc2 (by omega) (.inr ⟨_, rfl⟩), bb2, ll2, rfl⟩⟩
      · rw [List.length_set]; have := g2.le; omega
      · rw [get_ne (by omega)]; exact g2.get (by omega) hr3
      · rw [get_ne (by omega)]; exact g2.get (by omega) hi3
    by_cases hword : b = 73 ∨ b = 75 ∨ b = 74
    · have hst : stepF (c, st) b = (setS c b (takeS (cntF 1 st).1 (cntF 1 st).2).1, (takeS (cntF 1 st).1 (cntF 1 st).2).2) := by unfold stepF; rw [if_pos hword]
      obtain ⟨o, o1, o2, o3⟩ := setS_enc (m := c) (i := h1.length) hword (takeS (cntF 1 st).1 (cntF 1 st).2).1
      have hn := cnt1_byte st bb
      obtain ⟨b4, l4⟩ := cntF_sub 1 st bb
      obtain ⟨b5, l5⟩ := takeS_sub (cntF 1 st).1 (cntF 1 st).2 b4
      have hcall := cnt_call rr3 bb (by omega) 1
      simp [wpk_skip, wpk_seq, k_cond, wpk_block, wpk_exit, wpk_ret, wpk_goto, wpk_label, wpk_loop, k_ops, k_draw0, t_nil, t_cons, KT_eq, KD_eq, wpo_nil, k_cons, k_step, mt_some, mtk_some, KO_eq, KP_eq, K_normal, K_ret, K_exit, KB_normal, KB_ret, KB_exit, KL_normal, KL_ret, KL_exit, K_goto, KB_goto, KL_goto, KS_goto, KS_ret, KS_normal, KS_exit, k_ret, k_normal, stepE, isCall, calleeE, opE, wantE, odE, odS, odL, odSL, fget, fput, initE, keepF, List.map_cons, List.map_nil, binE, intOp, strOp, shOp, unE, eqpE, eqnE, neqB, ressE, resE, packL, packE, flat1, fcells, fillE, setL, cellsOf_bind, cellsO_own, cellsO_ro, lenE_sl, lenE_nils, lenE_sl0, bound, rep, minE, maxE, Option.getD_some, Option.getD_none, isKey, nlS, List.getElem?_cons_zero, List.getElem?_cons_succ, get_lt, set_lt, get_len, get_len_add, set_len, set_len_add, List.append_assoc, List.cons_append, List.nil_append, -getElem?_pos, l25_0_1, l25_0, hit, hb', ha, hH, word_ok, o1]
      refine WPc.go hcall ?_
      rintro _ h2 ⟨g2, rfl, rr2⟩
      simp [wpk_skip, wpk_seq, k_cond, wpk_block, wpk_exit, wpk_ret, wpk_goto, wpk_label, wpk_loop, k_ops, k_draw0, t_nil, t_cons, KT_eq, KD_eq, wpo_nil, k_cons, k_step, mt_some, mtk_some, KO_eq, KP_eq, K_normal, K_ret, K_exit, KB_normal, KB_ret, KB_exit, KL_normal, KL_ret, KL_exit, K_goto, KB_goto, KL_goto, KS_goto, KS_ret, KS_normal, KS_exit, k_ret, k_normal, stepE, isCall, calleeE, opE, wantE, odE, odS, odL, odSL, fget, fput, initE, keepF, List.map_cons, List.map_nil, binE, intOp, strOp, shOp, unE, eqpE, eqnE, neqB, ressE, resE, packL, packE, flat1, fcells, fillE, setL, cellsOf_bind, cellsO_own, cellsO_ro, lenE_sl, lenE_nils, lenE_sl0, bound, rep, minE, maxE, Option.getD_some, Option.getD_none, isKey, nlS, List.getElem?_cons_zero, List.getElem?_cons_succ, get_lt, set_lt, get_len, get_len_add, set_len, set_len_add, List.append_assoc, List.cons_append, List.nil_append, -getElem?_pos, ]
      refine WPc.go (take_call rr2 (cntF 1 st).1 hn.1) ?_
      rintro _ h3 ⟨g3, w, L, rfl, he, hL, rr4⟩
      have hc4 := (g2.trans g3).get (by omega) hc3
      have fin2 := fin _ _ h3 hst (g2.trans g3) rr4 b5 (by omega)
      have hbo := bytesOf_enc L
      have hbs : (⟨(L.map fun n => UInt8.ofNat n.toNat).toArray⟩ : ByteArray) = (takeS (cntF 1 st).1 (cntF 1 st).2).1 := hL
      simp [wpk_skip, wpk_seq, k_cond, wpk_block, wpk_exit, wpk_ret, wpk_goto, wpk_label, wpk_loop, k_ops, k_draw0, t_nil, t_cons, KT_eq, KD_eq, wpo_nil, k_cons, k_step, mt_some, mtk_some, KO_eq, KP_eq, K_normal, K_ret, K_exit, KB_normal, KB_ret, KB_exit, KL_normal, KL_ret, KL_exit, K_goto, KB_goto, KL_goto, KS_goto, KS_ret, KS_normal, KS_exit, k_ret, k_normal, stepE, isCall, calleeE, opE, wantE, odE, odS, odL, odSL, fget, fput, initE, keepF, List.map_cons, List.map_nil, binE, intOp, strOp, shOp, unE, eqpE, eqnE, neqB, ressE, resE, packL, packE, flat1, fcells, fillE, setL, cellsOf_bind, cellsO_own, cellsO_ro, lenE_sl, lenE_nils, lenE_sl0, bound, rep, minE, maxE, Option.getD_some, Option.getD_none, isKey, nlS, List.getElem?_cons_zero, List.getElem?_cons_succ, get_lt, set_lt, get_len, get_len_add, set_len, set_len_add, List.append_assoc, List.cons_append, List.nil_append, -getElem?_pos, he, hbo, hbs, hc4, hc12, o2, o3]
      exact fin2
    · have hst : stepF (c, st) b = (setN c b.toNat (cntF 8 st).1, (cntF 8 st).2) := by unfold stepF; rw [if_neg hword]
      have n1 : ((b.toNat : Nat) : Int) ≠ 73 := u8_ne (fun e => hword (.inl e))
      have n2 : ((b.toNat : Nat) : Int) ≠ 75 := u8_ne (fun e => hword (.inr (.inl e)))
      have n3 : ((b.toNat : Nat) : Int) ≠ 74 := u8_ne (fun e => hword (.inr (.inr e)))
      have q1 : wordV h1.length (b.toNat : Int) = .nilp := by unfold wordV; rw [if_neg n1, if_neg n2, if_neg n3]
      obtain ⟨p1, p2⟩ := setN_enc c (b.toNat : Int) (cntF 8 st).1
      obtain ⟨b4, l4⟩ := cntF_sub 8 st bb
      have hcall := cnt_call rr3 bb (by omega) 8
      simp [wpk_skip, wpk_seq, k_cond, wpk_block, wpk_exit, wpk_ret, wpk_goto, wpk_label, wpk_loop, k_ops, k_draw0, t_nil, t_cons, KT_eq, KD_eq, wpo_nil, k_cons, k_step, mt_some, mtk_some, KO_eq, KP_eq, K_normal, K_ret, K_exit, KB_normal, KB_ret, KB_exit, KL_normal, KL_ret, KL_exit, K_goto, KB_goto, KL_goto, KS_goto, KS_ret, KS_normal, KS_exit, k_ret, k_normal, stepE, isCall, calleeE, opE, wantE, odE, odS, odL, odSL, fget, fput, initE, keepF, List.map_cons, List.map_nil, binE, intOp, strOp, shOp, unE, eqpE, eqnE, neqB, ressE, resE, packL, packE, flat1, fcells, fillE, setL, cellsOf_bind, cellsO_own, cellsO_ro, lenE_sl, lenE_nils, lenE_sl0, bound, rep, minE, maxE, Option.getD_some, Option.getD_none, isKey, nlS, List.getElem?_cons_zero, List.getElem?_cons_succ, get_lt, set_lt, get_len, get_len_add, set_len, set_len_add, List.append_assoc, List.cons_append, List.nil_append, -getElem?_pos, l25_0_1, l25_0, hit, hb', ha, hH, word_ok, q1, place_ok]
      refine WPc.go hcall ?_
      rintro _ h2 ⟨g2, rfl, rr2⟩
      have hc4 := g2.get (by omega) hc3
      have fin2 := fin _ _ h2 hst g2 rr2 b4 (by omega)
      simp [wpk_skip, wpk_seq, k_cond, wpk_block, wpk_exit, wpk_ret, wpk_goto, wpk_label, wpk_loop, k_ops, k_draw0, t_nil, t_cons, KT_eq, KD_eq, wpo_nil, k_cons, k_step, mt_some, mtk_some, KO_eq, KP_eq, K_normal, K_ret, K_exit, KB_normal, KB_ret, KB_exit, KL_normal, KL_ret, KL_exit, K_goto, KB_goto, KL_goto, KS_goto, KS_ret, KS_normal, KS_exit, k_ret, k_normal, stepE, isCall, calleeE, opE, wantE, odE, odS, odL, odSL, fget, fput, initE, keepF, List.map_cons, List.map_nil, binE, intOp, strOp, shOp, unE, eqpE, eqnE, neqB, ressE, resE, packL, packE, flat1, fcells, fillE, setL, cellsOf_bind, cellsO_own, cellsO_ro, lenE_sl, lenE_nils, lenE_sl0, bound, rep, minE, maxE, Option.getD_some, Option.getD_none, isKey, nlS, List.getElem?_cons_zero, List.getElem?_cons_succ, get_lt, set_lt, get_len, get_len_add, set_len, set_len_add, List.append_assoc, List.cons_append, List.nil_append, -getElem?_pos, hc4, hc12, p1, p2]
      exact fin2
  · obtain rfl : k = (fieldsL k0).length := by omega
    have hn : (fieldsB k0).data.toList[(fieldsL k0).length]? = none := by rw [fields_data]; exact List.getElem?_eq_none (Nat.le_refl _)
    rw [List.drop_eq_nil_of_le (Nat.le_refl _), List.foldl_nil] at hfold
    rw [← hfold] at hΨ
    obtain ⟨v, v1, v2, v3⟩ := rr
    have htk : (encC c).take 12 = encC c := rfl
    have hst12 : setL (encC (zeroC 0)) 0 (encC c) = encC c := rfl
    have hz12 : (encC (zeroC 0)).length = 12 := rfl
    have hrl := lt_of_some hr2
    have rr := Rr.set (o' := .own 23 (encC c)) ⟨v, v1, v2, v3⟩ hr2 (by omega) (.inr ⟨_, rfl⟩)
    have gR := GrBut.set2 gr (Nat.le_refl _) (.own 23 (encC c))
    have hgs : (h'.set h.length (.own 23 (encC c)))[h.length]? = some (.own 23 (encC c)) := get_self hrl
    obtain ⟨ls, bad⟩ := st
    simp only at *
    cases bad with
    | true =>
      simp [wpk_skip, wpk_seq, k_cond, wpk_block, wpk_exit, wpk_ret, wpk_goto, wpk_label, wpk_loop, k_ops, k_draw0, t_nil, t_cons, KT_eq, KD_eq, wpo_nil, k_cons, k_step, mt_some, mtk_some, KO_eq, KP_eq, K_normal, K_ret, K_exit, KB_normal, KB_ret, KB_exit, KL_normal, KL_ret, KL_exit, K_goto, KB_goto, KL_goto, KS_goto, KS_ret, KS_normal, KS_exit, k_ret, k_normal, stepE, isCall, calleeE, opE, wantE, odE, odS, odL, odSL, fget, fput, initE, keepF, List.map_cons, List.map_nil, binE, intOp, strOp, shOp, unE, eqpE, eqnE, neqB, ressE, resE, packL, packE, flat1, fcells, fillE, setL, cellsOf_bind, cellsO_own, cellsO_ro, lenE_sl, lenE_nils, lenE_sl0, bound, rep, minE, maxE, Option.getD_some, Option.getD_none, isKey, nlS, List.getElem?_cons_zero, List.getElem?_cons_succ, get_lt, set_lt, get_len, get_len_add, set_len, set_len_add, List.append_assoc, List.cons_append, List.nil_append, -getElem?_pos, l25_0_1, l25_0, hit, hn]
      refine k_draw ?_
      simp [wpk_skip, wpk_seq, k_cond, wpk_block, wpk_exit, wpk_ret, wpk_goto, wpk_label, wpk_loop, k_ops, k_draw0, t_nil, t_cons, KT_eq, KD_eq, wpo_nil, k_cons, k_step, mt_some, mtk_some, KO_eq, KP_eq, K_normal, K_ret, K_exit, KB_normal, KB_ret, KB_exit, KL_normal, KL_ret, KL_exit, K_goto, KB_goto, KL_goto, KS_goto, KS_ret, KS_normal, KS_exit, k_ret, k_normal, stepE, isCall, calleeE, opE, wantE, odE, odS, odL, odSL, fget, fput, initE, keepF, List.map_cons, List.map_nil, binE, intOp, strOp, shOp, unE, eqpE, eqnE, neqB, ressE, resE, packL, packE, flat1, fcells, fillE, setL, cellsOf_bind, cellsO_own, cellsO_ro, lenE_sl, lenE_nils, lenE_sl0, bound, rep, minE, maxE, Option.getD_some, Option.getD_none, isKey, nlS, List.getElem?_cons_zero, List.getElem?_cons_succ, get_lt, set_lt, get_len, get_len_add, set_len, set_len_add, List.append_assoc, List.cons_append, List.nil_append, slotsG, slotsE, odT, odsT, optT, partsT, okPairs, okPair, changesE, rdAft, rdO, frLt, nmV, nmVL, nmL, nmS, -getElem?_pos, hc, v1, hr2, hc12, htk, hst12, hz12, hgs]
      exact hΨ _ _ ⟨gR, by simp, rr, bb, ll⟩
    | false =>
      cases hok : okC c with
      | true =>
        simp [wpk_skip, wpk_seq, k_cond, wpk_block, wpk_exit, wpk_ret, wpk_goto, wpk_label, wpk_loop, k_ops, k_draw0, t_nil, t_cons, KT_eq, KD_eq, wpo_nil, k_cons, k_step, mt_some, mtk_some, KO_eq, KP_eq, K_normal, K_ret, K_exit, KB_normal, KB_ret, KB_exit, KL_normal, KL_ret, KL_exit, K_goto, KB_goto, KL_goto, KS_goto, KS_ret, KS_normal, KS_exit, k_ret, k_normal, stepE, isCall, calleeE, opE, wantE, odE, odS, odL, odSL, fget, fput, initE, keepF, List.map_cons, List.map_nil, binE, intOp, strOp, shOp, unE, eqpE, eqnE, neqB, ressE, resE, packL, packE, flat1, fcells, fillE, setL, cellsOf_bind, cellsO_own, cellsO_ro, lenE_sl, lenE_nils, lenE_sl0, bound, rep, minE, maxE, Option.getD_some, Option.getD_none, isKey, nlS, List.getElem?_cons_zero, List.getElem?_cons_succ, get_lt, set_lt, get_len, get_len_add, set_len, set_len_add, List.append_assoc, List.cons_append, List.nil_append, -getElem?_pos, l25_0_1, l25_0, hit, hn]
        refine k_draw ?_
        simp [wpk_skip, wpk_seq, k_cond, wpk_block, wpk_exit, wpk_ret, wpk_goto, wpk_label, wpk_loop, k_ops, k_draw0, t_nil, t_cons, KT_eq, KD_eq, wpo_nil, k_cons, k_step, mt_some, mtk_some, KO_eq, KP_eq, K_normal, K_ret, K_exit, KB_normal, KB_ret, KB_exit, KL_normal, KL_ret, KL_exit, K_goto, KB_goto, KL_goto, KS_goto, KS_ret, KS_normal, KS_exit, k_ret, k_normal, stepE, isCall, calleeE, opE, wantE, odE, odS, odL, odSL, fget, fput, initE, keepF, List.map_cons, List.map_nil, binE, intOp, strOp, shOp, unE, eqpE, eqnE, neqB, ressE, resE, packL, packE, flat1, fcells, fillE, setL, cellsOf_bind, cellsO_own, cellsO_ro, lenE_sl, lenE_nils, lenE_sl0, bound, rep, minE, maxE, Option.getD_some, Option.getD_none, isKey, nlS, List.getElem?_cons_zero, List.getElem?_cons_succ, get_lt, set_lt, get_len, get_len_add, set_len, set_len_add, List.append_assoc, List.cons_append, List.nil_append, slotsG, slotsE, odT, odsT, optT, partsT, okPairs, okPair, changesE, rdAft, rdO, frLt, nmV, nmVL, nmL, nmS, -getElem?_pos, hc, v1, hr2, hc12, htk, hst12, hz12, check_call, hok, hgs]
        exact hΨ _ _ ⟨gR, by simp [hok], rr, bb, ll⟩
      | false =>
        simp [wpk_skip, wpk_seq, k_cond, wpk_block, wpk_exit, wpk_ret, wpk_goto, wpk_label, wpk_loop, k_ops, k_draw0, t_nil, t_cons, KT_eq, KD_eq, wpo_nil, k_cons, k_step, mt_some, mtk_some, KO_eq, KP_eq, K_normal, K_ret, K_exit, KB_normal, KB_ret, KB_exit, KL_normal, KL_ret, KL_exit, K_goto, KB_goto, KL_goto, KS_goto, KS_ret, KS_normal, KS_exit, k_ret, k_normal, stepE, isCall, calleeE, opE, wantE, odE, odS, odL, odSL, fget, fput, initE, keepF, List.map_cons, List.map_nil, binE, intOp, strOp, shOp, unE, eqpE, eqnE, neqB, ressE, resE, packL, packE, flat1, fcells, fillE, setL, cellsOf_bind, cellsO_own, cellsO_ro, lenE_sl, lenE_nils, lenE_sl0, bound, rep, minE, maxE, Option.getD_some, Option.getD_none, isKey, nlS, List.getElem?_cons_zero, List.getElem?_cons_succ, get_lt, set_lt, get_len, get_len_add, set_len, set_len_add, List.append_assoc, List.cons_append, List.nil_append, -getElem?_pos, l25_0_1, l25_0, hit, hn]
        refine k_draw ?_
        simp [wpk_skip, wpk_seq, k_cond, wpk_block, wpk_exit, wpk_ret, wpk_goto, wpk_label, wpk_loop, k_ops, k_draw0, t_nil, t_cons, KT_eq, KD_eq, wpo_nil, k_cons, k_step, mt_some, mtk_some, KO_eq, KP_eq, K_normal, K_ret, K_exit, KB_normal, KB_ret, KB_exit, KL_normal, KL_ret, KL_exit, K_goto, KB_goto, KL_goto, KS_goto, KS_ret, KS_normal, KS_exit, k_ret, k_normal, stepE, isCall, calleeE, opE, wantE, odE, odS, odL, odSL, fget, fput, initE, keepF, List.map_cons, List.map_nil, binE, intOp, strOp, shOp, unE, eqpE, eqnE, neqB, ressE, resE, packL, packE, flat1, fcells, fillE, setL, cellsOf_bind, cellsO_own, cellsO_ro, lenE_sl, lenE_nils, lenE_sl0, bound, rep, minE, maxE, Option.getD_some, Option.getD_none, isKey, nlS, List.getElem?_cons_zero, List.getElem?_cons_succ, get_lt, set_lt, get_len, get_len_add, set_len, set_len_add, List.append_assoc, List.cons_append, List.nil_append, slotsG, slotsE, odT, odsT, optT, partsT, okPairs, okPair, changesE, rdAft, rdO, frLt, nmV, nmVL, nmL, nmS, -getElem?_pos, hc, v1, hr2, hc12, htk, hst12, hz12, check_call, hok, hgs]
        exact hΨ _ _ ⟨gR, by simp [hok], rr, bb, ll⟩
end Go.Proofs.YtbgfcgmbihhlbaaDoor.Ev.CW
