/- Scripts as bytes: what is packed is unpacked; plain facts. -/
import Derived.Test.YtbgfcgmbihhlbaaDoorWsD
set_option linter.unusedSimpArgs false
set_option linter.unusedVariables false
namespace Go.Proofs.YtbgfcgmbihhlbaaDoor.Ev.CW
open Go
open CK (Cm encC fieldsL fieldsB okC cmOf_enc)

theorem W64.m {m : Cm} (h : W64 m) : M64 m := ⟨h.2.1, h.2.2.1, h.2.2.2.1, h.2.2.2.2.1, h.2.2.2.2.2.1, h.2.2.2.2.2.2.1, h.2.2.2.2.2.2.2.1, h.2.2.2.2.2.2.2.2.1⟩
theorem packC_ne (m : Cm) : packC m ≠ [] := by unfold packC; simp
theorem isB_T (s : ByteArray) : isB (bytesT s) := by
  intro x hx
  unfold bytesT at hx
  obtain ⟨b, _, rfl⟩ := List.mem_map.1 hx
  have := b.toNat_lt
  omega
theorem isB_app {a b : List Int} (ha : isB a) (hb : isB b) : isB (a ++ b) := fun x hx => (List.mem_append.1 hx).elim (ha x) (hb x)
theorem isB_num (n : Int) : isB (num8 n) := by
  intro x hx
  simp only [num8, List.mem_cons, List.not_mem_nil, or_false] at hx
  rcases hx with rfl | rfl | rfl | rfl | rfl | rfl | rfl | rfl <;> omega
theorem isB_pack {m : Cm} (hm : Short m) : isB (packC m) := by
  obtain ⟨h1, h2, h3⟩ := hm
  have ht : ∀ s : ByteArray, s.size ≤ 255 → isB (textB s) := fun s hs x hx => by
    unfold textB at hx
    rcases List.mem_cons.1 hx with rfl | hx
    · omega
    · exact isB_T s x hx
  intro x hx
  unfold packC at hx
  rcases List.mem_cons.1 hx with rfl | hx
  · omega
  · obtain ⟨f, _, hf⟩ := List.mem_flatMap.1 hx
    unfold packF at hf
    split at hf
    · exact ht _ h1 x hf
    · split at hf
      · exact ht _ h2 x hf
      · split at hf
        · exact ht _ h3 x hf
        · exact isB_num _ x hf
theorem isB_packs {l : List Cm} (hl : ∀ m ∈ l, okC m = true) : isB (l.flatMap packC) := by
  intro x hx
  obtain ⟨m, hm, hx⟩ := List.mem_flatMap.1 hx
  exact isB_pack (short_ok (hl m hm)) x hx
/-- What is packed is unpacked. -/
theorem unpack_packs {tot : Nat} {rest : List Int} : ∀ (l : List Cm) (acc : List Cm) (n : Nat), (∀ m ∈ l, okC m = true ∧ M64 m) → unpackN tot (n + l.length) (l.flatMap packC ++ rest) acc = unpackN tot n rest (acc ++ l)
  | [], acc, n, _ => by simp
  | m :: l, acc, n, h => by
    obtain ⟨h1, h2⟩ := h m List.mem_cons_self
    have e := read_back h1 h2 (l.flatMap packC ++ rest)
    rw [List.flatMap_cons, List.append_assoc, List.length_cons, ← Nat.add_assoc]
    simp only [unpackN]
    rw [if_neg (by have := packC_ne m; simp [this]), e]
    simp only [h1, Bool.not_false, Bool.and_self, if_true]
    rw [unpack_packs l (acc ++ [m]) n (fun x hx => h x (List.mem_cons_of_mem _ hx))]
    simp
theorem packs_ge : ∀ (l : List Cm), l.length ≤ (l.flatMap packC).length
  | [] => by simp
  | m :: l => by
    have := packs_ge l
    have h : 0 < (packC m).length := List.length_pos_iff.2 (packC_ne m)
    rw [List.flatMap_cons, List.length_append, List.length_cons]
    omega
theorem unpack_all {tot : Nat} {l : List Cm} (h : ∀ m ∈ l, okC m = true ∧ M64 m) : unpackN tot ((l.flatMap packC).length + 1) (l.flatMap packC) [] = .inl l := by
  have h0 := packs_ge l
  have e := unpack_packs (tot := tot) (rest := []) l [] ((l.flatMap packC).length + 1 - l.length) h
  rw [List.append_nil, Nat.sub_add_cancel (by omega)] at e
  rw [e]
  obtain ⟨k, hk⟩ : ∃ k, (l.flatMap packC).length + 1 - l.length = k + 1 := ⟨(l.flatMap packC).length - l.length, by omega⟩
  rw [hk]
  simp [unpackN]

/-! ### Cut off -/
theorem take_bad {n : Nat} {l : List Int} (h : l.length < n ∨ True) (b : Bool) : b = true → cntF n (l, b) = (0, l, true) := by
  intro hb; subst hb; simp [cntF, takeF]
theorem step_bad (q : Cm) (l : List Int) (f : UInt8) : (stepF (q, l, true) f).2.2 = true := by
  unfold stepF
  split
  · simp [cntF, takeS, takeF]
  · simp [cntF, takeF]
theorem fold_bad : ∀ (fs : List UInt8) (q : Cm × St), q.2.2 = true → (fs.foldl stepF q).2.2 = true
  | [], q, h => h
  | f :: fs, (q, l, b), h => by
    simp only at h
    subst h
    exact fold_bad fs _ (step_bad q l f)
theorem fold_cut (m : Cm) (hm : Short m) (h64 : M64 m) : ∀ (fs : List UInt8) (q : Cm) (p : List Int), p <+: fs.flatMap (packF m) → p ≠ fs.flatMap (packF m) → (fs.foldl stepF (q, p, false)).2.2 = true
  | [], q, p, h, hne => by
    simp only [List.flatMap_nil] at h hne
    exact absurd (List.prefix_nil.1 h) hne
  | f :: fs, q, p, h, hne => by
    rw [List.flatMap_cons] at h hne
    rw [List.foldl_cons]
    by_cases hlen : (packF m f).length ≤ p.length
    · -- all of it is there
      obtain ⟨s, hs⟩ := h
      have hp : p = packF m f ++ p.drop (packF m f).length := by
        have e1 : (p ++ s).take (packF m f).length = packF m f := by rw [hs, List.take_left']; rfl
        rw [List.take_append_of_le_length hlen] at e1
        conv => lhs; rw [← List.take_append_drop (packF m f).length p, e1]
      generalize p.drop (packF m f).length = p' at hp
      subst hp
      rw [List.append_assoc, List.append_cancel_left_eq] at hs
      have hne' : p' ≠ fs.flatMap (packF m) := fun e => hne (by rw [e])
      have e : ∃ q', stepF (q, packF m f ++ p', false) f = (q', p', false) := by
        by_cases hf : f = 73 ∨ f = 75 ∨ f = 74
        · exact ⟨_, stepT m q hm f hf _⟩
        · exact ⟨_, stepN m q f hf (num64 h64 _) _⟩
      obtain ⟨q', e⟩ := e
      rw [e]
      exact fold_cut m hm h64 fs q' p' ⟨s, hs⟩ hne'
    · -- it is cut
      refine fold_bad fs _ ?_
      have hpre : p <+: packF m f := List.prefix_of_prefix_length_le h (List.prefix_append _ _) (by omega)
      have hlt : p.length < (packF m f).length := by omega
      unfold stepF
      split
      · rename_i hf
        have ht : ∃ s : ByteArray, s.size ≤ 255 ∧ packF m f = textB s := by
          rcases hf with rfl | rfl | rfl
          · exact ⟨m.a, hm.1, rfl⟩
          · exact ⟨m.b, hm.2.1, rfl⟩
          · exact ⟨m.j, hm.2.2, rfl⟩
        obtain ⟨s, hs, he⟩ := ht
        rw [he] at hpre hlt
        cases p with
        | nil => simp [cntF, takeS, takeF]
        | cons x r =>
          obtain ⟨t, ht⟩ := hpre
          unfold textB at ht
          rw [List.cons_append, List.cons.injEq] at ht
          obtain ⟨rfl, ht⟩ := ht
          have e1 := cnt1 (s.size : Int) (by omega) r
          show (takeS (cntF 1 ((s.size : Int) :: r, false)).1 (cntF 1 ((s.size : Int) :: r, false)).2).2.2 = true
          rw [e1]
          have : r.length < s.size := by
            simp only [textB, List.length_cons, bytesT_len] at hlt
            omega
          simp [takeS, takeF, this]
      · rename_i hf
        have he : packF m f = num8 (numOf m f.toNat) := by
          unfold packF
          rw [if_neg (fun e => hf (.inl e)), if_neg (fun e => hf (.inr (.inl e))), if_neg (fun e => hf (.inr (.inr e)))]
        rw [he, num8_len] at hlt
        show (cntF 8 (p, false)).2.2 = true
        have hlt' : (p.length : Int) < 8 := by omega
        simp [cntF, takeF, hlt']
/-- A command that is cut off is none. -/
theorem command_cut {m : Cm} (h : okC m = true) (h64 : M64 m) {p : List Int} (hp : p <+: packC m) (hn : p ≠ []) (hne : p ≠ packC m) : (commandF (p, false)).2.2 = true := by
  have hk := (ok_parts h).1
  cases p with
  | nil => exact absurd rfl hn
  | cons x r =>
    unfold packC at hp hne
    obtain ⟨t, ht⟩ := hp
    rw [List.cons_append, List.cons.injEq] at ht
    obtain ⟨rfl, ht⟩ := ht
    have e : m.k % 256 = m.k := by omega
    unfold commandF
    rw [cnt1 _ (by omega), e]
    simp only
    exact fold_cut m (short_ok h) h64 _ _ r ⟨t, ht⟩ (fun e' => hne (by rw [e']))
theorem unpack_cut {l : List Cm} {m : Cm} (h : ∀ x ∈ l, okC x = true ∧ M64 x) (hm : okC m = true) (h64 : M64 m) {p : List Int} (hp : p <+: packC m) (hn : p ≠ []) (hne : p ≠ packC m) {tot : Nat} (ht : tot = (l.flatMap packC ++ p).length) :
    unpackN tot (tot + 1) (l.flatMap packC ++ p) [] = .inr (l.flatMap packC).length := by
  have h0 := packs_ge l
  have hl : 0 < p.length := List.length_pos_iff.2 hn
  rw [List.length_append] at ht
  have e := unpack_packs (tot := tot) (rest := p) l [] (tot + 1 - l.length) h
  rw [Nat.sub_add_cancel (by omega)] at e
  rw [e]
  obtain ⟨k, hk⟩ : ∃ k, tot + 1 - l.length = k + 1 := ⟨tot - l.length, by omega⟩
  rw [hk]
  simp only [unpackN]
  rw [if_neg hn, command_cut hm h64 hp hn hne]
  simp only [Bool.not_true, Bool.false_and, Bool.false_eq_true, if_false]
  congr 1; omega
theorem copyC_ok {h : LH} {v : SV} {l : List Cm} (r : Rd h 23 12 encC v l) (hl : l.length ≤ 1000000) : WPc C 22 [.s v] h fun u h' => Gr h h' ∧ ∃ w, u = .s w ∧ Ow h.length h' 23 encC w l := by
  refine WPc.post fun Ψ hΨ => ?_
  refine WPc.intro (e := e22) rfl (by simp [e22]) ?_
  show WPk C b22 _ _ (KR [.tmp 2] _)
  obtain ⟨w, r', e, ow⟩ := copy_gen (y := 120) r (by omega)
  simp [wpk_skip, wpk_seq, k_cond, wpk_block, wpk_exit, wpk_ret, wpk_goto, wpk_label, wpk_loop, k_ops, k_draw0, t_nil, t_cons, KT_eq, KD_eq, wpo_nil, k_cons, k_step, mt_some, mtk_some, KO_eq, KP_eq, K_normal, K_ret, K_exit, KB_normal, KB_ret, KB_exit, KL_normal, KL_ret, KL_exit, K_goto, KB_goto, KL_goto, KS_goto, KS_ret, KS_normal, KS_exit, k_ret, k_normal, stepE, isCall, calleeE, opE, wantE, odE, odS, odL, odSL, fget, fput, initE, keepF, List.map_cons, List.map_nil, binE, intOp, strOp, shOp, unE, eqpE, eqnE, neqB, ressE, resE, packL, packE, flat1, fcells, fillE, setL, cellsOf_bind, cellsO_own, cellsO_ro, lenE_sl, lenE_nils, lenE_sl0, bound, rep, minE, maxE, Option.getD_some, Option.getD_none, isKey, nlS, List.getElem?_cons_zero, List.getElem?_cons_succ, get_lt, set_lt, get_len, get_len_add, set_len, set_len_add, List.append_assoc, List.cons_append, List.nil_append, -getElem?_pos, b22, s22_1, r.len, r.elems, e]
  exact hΨ _ _ ⟨Gr.self _ _, w, rfl, ow⟩
theorem packs_yes {h : LH} {v : SV} {l : List Cm} (r : Rd h 23 12 encC v l) (hl : l.length < 1000) (ha : l.all okC = true) :
    WPc C 9 [.s v] h fun u h' => Gr h h' ∧ ∃ w, u = .tup [.s w, .s (.int .i64 0)] ∧ Ow h.length h' 5 encB w (l.flatMap packC) := by
  refine (packs_ok r hl).mono ?_
  rintro u h' ⟨g, ⟨_, w, e, ow⟩ | ⟨e, _⟩⟩
  · exact ⟨g, w, e, ow⟩
  · rw [ha] at e; cases e
theorem packs_no {h : LH} {v : SV} {l : List Cm} (r : Rd h 23 12 encC v l) (hl : l.length < 1000) (ha : l.all okC = false) :
    WPc C 9 [.s v] h fun u h' => Gr h h' ∧ u = .tup [.s .nils, .s (.int .i64 1)] := by
  refine (packs_ok r hl).mono ?_
  rintro u h' ⟨g, ⟨e, _⟩ | ⟨_, e⟩⟩
  · rw [ha] at e; cases e
  · exact ⟨g, e⟩
end Go.Proofs.YtbgfcgmbihhlbaaDoor.Ev.CW
