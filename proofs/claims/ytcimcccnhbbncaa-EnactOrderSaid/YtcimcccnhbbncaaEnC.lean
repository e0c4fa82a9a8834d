/- Rates on the small machine: clones of a table; what is enacted as it comes in. -/
import Derived.Test.YtcimcccnhbbncaaEnB
import Derived.Test.YtcimcccnhbbncaaEvRow2
set_option linter.unusedSimpArgs false
set_option linter.unusedVariables false
namespace Go.Proofs.Ytcimcccnhbbncaa.Ev.CE
open Go

theorem clone35_ok {b : Nat} {h : LH} {i : Nat} {v : SV} {l : List Ro} (t : Tb b h i v l) : WPc C 35 [.s (.ptr i 0)] h fun u h' => Gr h h' ∧ ∃ i' v', u = .s (.ptr i' 0) ∧ Tb h.length h' i' v' l := by
  refine WPc.post fun Ψ hΨ => ?_
  refine WPc.intro (e := e35) rfl (by simp [e35]) ?_
  show WPk C b35 _ _ (KR [.tmp 2] _)
  simp [wpk_skip, wpk_seq, k_cond, wpk_block, wpk_exit, wpk_ret, wpk_loop, k_ops, k_draw0, t_nil, t_cons, KT_eq, KD_eq, wpo_nil, k_cons, k_step, mt_some, mtk_some, KO_eq, KP_eq, K_normal, K_ret, K_exit, KB_normal, KB_ret, KB_exit, KL_normal, KL_ret, KL_exit, k_ret, k_normal, stepE, isCall, calleeE, opE, wantE, odE, odS, odL, odSL, fget, fput, initE, keepF, List.map_cons, List.map_nil, binE, intOp, strOp, shOp, unE, eqpE, eqnE, neqB, ressE, resE, packL, packE, flat1, fcells, fillE, setL, cellsOf_bind, cellsO_own, cellsO_ro, lenE_sl, lenE_nils, lenE_sl0, bound, rep, minE, maxE, List.getElem?_cons_zero, List.getElem?_cons_succ, get_lt, set_lt, get_len, get_len_add, set_len, set_len_add, List.append_assoc, List.cons_append, List.nil_append, -getElem?_pos, b35, s35_1]
  refine WPc.go t.rs ?_
  rintro _ h1 ⟨g1, w, rfl, ow⟩
  simp [wpk_skip, wpk_seq, k_cond, wpk_block, wpk_exit, wpk_ret, wpk_loop, k_ops, k_draw0, t_nil, t_cons, KT_eq, KD_eq, wpo_nil, k_cons, k_step, mt_some, mtk_some, KO_eq, KP_eq, K_normal, K_ret, K_exit, KB_normal, KB_ret, KB_exit, KL_normal, KL_ret, KL_exit, k_ret, k_normal, stepE, isCall, calleeE, opE, wantE, odE, odS, odL, odSL, fget, fput, initE, keepF, List.map_cons, List.map_nil, binE, intOp, strOp, shOp, unE, eqpE, eqnE, neqB, ressE, resE, packL, packE, flat1, fcells, fillE, setL, cellsOf_bind, cellsO_own, cellsO_ro, lenE_sl, lenE_nils, lenE_sl0, bound, rep, minE, maxE, List.getElem?_cons_zero, List.getElem?_cons_succ, get_lt, set_lt, get_len, get_len_add, set_len, set_len_add, List.append_assoc, List.cons_append, List.nil_append, -getElem?_pos, ]
  exact hΨ _ _ ⟨g1.app _, _, _, rfl, g1.le, get_len, ow.gr (Gr.self _ _), t.len⟩

/-- What is enacted, as it comes in. -/
structure Act where
  j : Int
  y : Int
  r : Int
  p : Int
  raw : Bool
def encA (a : Act) : List SV := [.int .i64 a.j, .int .i64 a.y, .int .i64 a.r, .int .i64 a.p, .bool a.raw]
theorem encA_len (a : Act) : (encA a).length = 5 := rfl
def goodA (a : Act) : Prop := (Lit.int .i64 a.j).wf = true ∧ (Lit.int .i64 a.y).wf = true ∧ (Lit.int .i64 a.r).wf = true ∧ (Lit.int .i64 a.p).wf = true
def actK : List FK := [.int, .int, .int, .int, .bool]
theorem actE (row : List SV) (h : RowOk actK row) : ∃ a, encA a = row ∧ goodA a := by
  obtain ⟨hl, h⟩ := h
  obtain ⟨_, e0, n0, rfl, g0⟩ := h 0 .int rfl
  obtain ⟨_, e1, n1, rfl, g1⟩ := h 1 .int rfl
  obtain ⟨_, e2, n2, rfl, g2⟩ := h 2 .int rfl
  obtain ⟨_, e3, n3, rfl, g3⟩ := h 3 .int rfl
  obtain ⟨_, e4, b4, rfl⟩ := h 4 .bool rfl
  refine ⟨⟨n0, n1, n2, n3, b4⟩, ?_, g0, g1, g2, g3⟩
  match row, hl with
  | [a0, a1, a2, a3, a4], _ =>
    simp at e0 e1 e2 e3 e4
    rw [e0, e1, e2, e3, e4]; rfl
theorem encA_flat (a : Act) : ∀ u ∈ encA a, ∀ ρ' n, wf ρ' n u := by
  intro u hu ρ' n
  simp [encA] at hu
  rcases hu with rfl | rfl | rfl | rfl | rfl <;> trivial
end Go.Proofs.Ytcimcccnhbbncaa.Ev.CE
