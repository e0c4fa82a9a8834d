/- Wire: the example of the document, on the small machine. -/
import Derived.Test.YtbgfcgmbihhlbaaDoorWrH
set_option linter.unusedSimpArgs false
set_option linter.unusedVariables false
namespace Go.Proofs.YtbgfcgmbihhlbaaDoor.Ev.CW
open Go
open CK (Cm encC fieldsL fieldsB okC cmOf_enc)

def closeA : Cm := ⟨11, ⟨#[97]⟩, ⟨#[]⟩, ⟨#[]⟩, 0, 0, 0, 0, 0, 0, 0, 0⟩
theorem okC_a : okC closeA = true := by
  simp [okC, closeA, fieldsL, CK.txtM, CK.numM, CK.good1, CK.good2, CK.hasF, name_a, empty_str]
theorem packC_a : packC closeA = [11, 1, 97] := rfl
theorem Ow.nil_len {α : Type} {enc : α → List SV} {b t : Nat} {h : LH} {v : SV} (r : Ow b h t enc v []) : lenE v = some 0 := r.len
set_option maxRecDepth 20000 in
theorem wakes_ok (h : LH) : WPc C 14 [] h fun u h' => Gr h h' ∧ u = .s (.bool true) := by
  refine WPc.post fun Ψ hΨ => ?_
  refine WPc.intro (e := e14) rfl (by simp [e14]) ?_
  show WPk C b14 _ _ (KR [.tmp 0] _)
  simp [wpk_skip, wpk_seq, k_cond, wpk_block, wpk_exit, wpk_ret, wpk_goto, wpk_label, wpk_loop, k_ops, k_draw0, t_nil, t_cons, KT_eq, KD_eq, wpo_nil, k_cons, k_step, mt_some, mtk_some, KO_eq, KP_eq, K_normal, K_ret, K_exit, KB_normal, KB_ret, KB_exit, KL_normal, KL_ret, KL_exit, K_goto, KB_goto, KL_goto, KS_goto, KS_ret, KS_normal, KS_exit, k_ret, k_normal, stepE, isCall, calleeE, opE, wantE, odE, odS, odL, odSL, fget, fput, initE, keepF, List.map_cons, List.map_nil, binE, intOp, strOp, shOp, unE, eqpE, eqnE, neqB, ressE, resE, packL, packE, flat1, fcells, fillE, setL, cellsOf_bind, cellsO_own, cellsO_ro, lenE_sl, lenE_nils, lenE_sl0, bound, rep, minE, maxE, Option.getD_some, Option.getD_none, isKey, nlS, List.getElem?_cons_zero, List.getElem?_cons_succ, get_lt, set_lt, get_len, get_len_add, set_len, set_len_add, List.append_assoc, List.cons_append, List.nil_append, -getElem?_pos, b14, s14_3, s14_2, s14_1]
  refine WPc.go (unpack_ok (h := h) (v := .nils) (l := []) (.inl ⟨rfl, .inl rfl⟩) (fun j p o e => by cases e) (fun x hx => by cases hx) (by simp)) ?_
  rintro _ h1 ⟨g1, hu⟩
  have e0 : unpackN 0 1 [] [] = .inl [] := rfl
  simp only [List.length_nil, Nat.zero_add, e0, UnR] at hu
  obtain ⟨w, rfl, ow⟩ := hu
  have wl := Ow.nil_len ow
  simp [wpk_skip, wpk_seq, k_cond, wpk_block, wpk_exit, wpk_ret, wpk_goto, wpk_label, wpk_loop, k_ops, k_draw0, t_nil, t_cons, KT_eq, KD_eq, wpo_nil, k_cons, k_step, mt_some, mtk_some, KO_eq, KP_eq, K_normal, K_ret, K_exit, KB_normal, KB_ret, KB_exit, KL_normal, KL_ret, KL_exit, K_goto, KB_goto, KL_goto, KS_goto, KS_ret, KS_normal, KS_exit, k_ret, k_normal, stepE, isCall, calleeE, opE, wantE, odE, odS, odL, odSL, fget, fput, initE, keepF, List.map_cons, List.map_nil, binE, intOp, strOp, shOp, unE, eqpE, eqnE, neqB, ressE, resE, packL, packE, flat1, fcells, fillE, setL, cellsOf_bind, cellsO_own, cellsO_ro, lenE_sl, lenE_nils, lenE_sl0, bound, rep, minE, maxE, Option.getD_some, Option.getD_none, isKey, nlS, List.getElem?_cons_zero, List.getElem?_cons_succ, get_lt, set_lt, get_len, get_len_add, set_len, set_len_add, List.append_assoc, List.cons_append, List.nil_append, -getElem?_pos, ]
  have rl : Rd (h1 ++ [LO.own 23 (encC closeA)]) 23 12 encC (.sl h1.length 0 0 [closeA].length) [closeA] := Rd.lit (t := 23) (enc := encC) (l := [closeA]) encC_len (by rw [List.flatMap_singleton]; exact get_len)
  refine WPc.go (packs_ok rl (by simp)) ?_
  rintro _ h2 ⟨g2, hu⟩
  have hall : [closeA].all okC = true := by simp [okC_a]
  rcases hu with ⟨_, w2, rfl, ow2⟩ | ⟨e, _⟩
  · rw [List.flatMap_singleton, packC_a] at ow2
    have r2 := (ow2.rd encB_len (z := 1)).gr (Gr.self h2 [.own 5 [.int .u8 11, .int .u8 1, .int .u8 97]])
    have r3 : Rd (h2 ++ [LO.own 5 [.int .u8 11, .int .u8 1, .int .u8 97]]) 5 1 encB (.sl h2.length 0 0 [(11 : Int), 1, 97].length) [11, 1, 97] := Rd.lit (t := 5) (enc := encB) (l := [11, 1, 97]) encB_len get_len
    have hs := sameB_ok r2 r3 (by decide)
    simp at hs
    simp [wpk_skip, wpk_seq, k_cond, wpk_block, wpk_exit, wpk_ret, wpk_goto, wpk_label, wpk_loop, k_ops, k_draw0, t_nil, t_cons, KT_eq, KD_eq, wpo_nil, k_cons, k_step, mt_some, mtk_some, KO_eq, KP_eq, K_normal, K_ret, K_exit, KB_normal, KB_ret, KB_exit, KL_normal, KL_ret, KL_exit, K_goto, KB_goto, KL_goto, KS_goto, KS_ret, KS_normal, KS_exit, k_ret, k_normal, stepE, isCall, calleeE, opE, wantE, odE, odS, odL, odSL, fget, fput, initE, keepF, List.map_cons, List.map_nil, binE, intOp, strOp, shOp, unE, eqpE, eqnE, neqB, ressE, resE, packL, packE, flat1, fcells, fillE, setL, cellsOf_bind, cellsO_own, cellsO_ro, lenE_sl, lenE_nils, lenE_sl0, bound, rep, minE, maxE, Option.getD_some, Option.getD_none, isKey, nlS, List.getElem?_cons_zero, List.getElem?_cons_succ, get_lt, set_lt, get_len, get_len_add, set_len, set_len_add, List.append_assoc, List.cons_append, List.nil_append, -getElem?_pos, wl, hs]
    exact hΨ _ _ ⟨(g1.app _).trans (g2.app _), rfl⟩
  · rw [hall] at e; cases e
end Go.Proofs.YtbgfcgmbihhlbaaDoor.Ev.CW
