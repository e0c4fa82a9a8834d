/- Commands that come in. -/
import Derived.Test.YtbgfcgmbihhlbaaDoorWsC
import Derived.Test.YtbgfcgmbihhlbaaDoorEvRow2
set_option linter.unusedSimpArgs false
set_option linter.unusedVariables false
namespace Go.Proofs.YtbgfcgmbihhlbaaDoor.Ev.CW
open Go
open CK (Cm encC fieldsL fieldsB okC cmOf_enc)
def goodP (x : Pc) : Prop := (Lit.int .i64 x.d).wf = true ∧ (Lit.int .i64 x.a).wf = true ∧ (Lit.int .i64 x.b).wf = true ∧ (Lit.int .i64 x.n).wf = true
def pcK : List FK := [.int, .int, .int, .int, .str]
theorem pcE (row : List SV) (h : RowOk pcK row) : ∃ a, encP a = row ∧ goodP a := by
  obtain ⟨hl, h⟩ := h
  obtain ⟨_, e0, n0, rfl, g0⟩ := h 0 .int rfl
  obtain ⟨_, e1, n1, rfl, g1⟩ := h 1 .int rfl
  obtain ⟨_, e2, n2, rfl, g2⟩ := h 2 .int rfl
  obtain ⟨_, e3, n3, rfl, g3⟩ := h 3 .int rfl
  obtain ⟨_, e4, s4, rfl, _⟩ := h 4 .str rfl
  refine ⟨⟨n0, n1, n2, n3, s4⟩, ?_, g0, g1, g2, g3⟩
  match row, hl with
  | [a0, a1, a2, a3, a4], _ =>
    simp at e0 e1 e2 e3 e4
    rw [e0, e1, e2, e3, e4]; rfl
theorem encP_flat (a : Pc) : ∀ u ∈ encP a, ∀ ρ' n, wf ρ' n u := by
  intro u hu ρ' n
  simp [encP] at hu
  rcases hu with rfl | rfl | rfl | rfl | rfl <;> trivial
theorem goodP_64 {x : Pc} (h : goodP x) : P64 x := ⟨lit_64 h.1, lit_64 h.2.1, lit_64 h.2.2.1, lit_64 h.2.2.2⟩
def goodC (m : Cm) : Prop := (Lit.int .i64 m.k).wf = true ∧ (Lit.int .i64 m.c).wf = true ∧ (Lit.int .i64 m.d).wf = true ∧ (Lit.int .i64 m.y).wf = true ∧ (Lit.int .i64 m.z).wf = true ∧ (Lit.int .i64 m.p).wf = true ∧ (Lit.int .i64 m.n).wf = true ∧ (Lit.int .i64 m.r).wf = true ∧ (Lit.int .i64 m.x).wf = true ∧ S63 m
def cmK : List FK := [.int, .str, .str, .str, .int, .int, .int, .int, .int, .int, .int, .int]
theorem cmE (row : List SV) (h : RowOk cmK row) : ∃ a, encC a = row ∧ goodC a := by
  obtain ⟨hl, h⟩ := h
  obtain ⟨_, e0, n0, rfl, g0⟩ := h 0 .int rfl
  obtain ⟨_, e1, s1, rfl, k1⟩ := h 1 .str rfl
  obtain ⟨_, e2, s2, rfl, k2⟩ := h 2 .str rfl
  obtain ⟨_, e3, s3, rfl, k3⟩ := h 3 .str rfl
  obtain ⟨_, e4, n4, rfl, g4⟩ := h 4 .int rfl
  obtain ⟨_, e5, n5, rfl, g5⟩ := h 5 .int rfl
  obtain ⟨_, e6, n6, rfl, g6⟩ := h 6 .int rfl
  obtain ⟨_, e7, n7, rfl, g7⟩ := h 7 .int rfl
  obtain ⟨_, e8, n8, rfl, g8⟩ := h 8 .int rfl
  obtain ⟨_, e9, n9, rfl, g9⟩ := h 9 .int rfl
  obtain ⟨_, e10, n10, rfl, g10⟩ := h 10 .int rfl
  obtain ⟨_, e11, n11, rfl, g11⟩ := h 11 .int rfl
  refine ⟨⟨n0, s1, s2, s3, n4, n5, n6, n7, n8, n9, n10, n11⟩, ?_, g0, g4, g5, g6, g7, g8, g9, g10, g11, k1, k2, k3⟩
  match row, hl with
  | [a0, a1, a2, a3, a4, a5, a6, a7, a8, a9, a10, a11], _ =>
    simp at e0 e1 e2 e3 e4 e5 e6 e7 e8 e9 e10 e11
    rw [e0, e1, e2, e3, e4, e5, e6, e7, e8, e9, e10, e11]; rfl
theorem encC_flat (a : Cm) : ∀ u ∈ encC a, ∀ ρ' n, wf ρ' n u := by
  intro u hu ρ' n
  simp [CK.encC] at hu
  rcases hu with rfl | rfl | rfl | rfl | rfl | rfl | rfl | rfl | rfl | rfl | rfl | rfl <;> trivial
theorem goodC_64 {x : Cm} (h : goodC x) : W64 x := ⟨lit_64 h.1, lit_64 h.2.1, lit_64 h.2.2.1, lit_64 h.2.2.2.1, lit_64 h.2.2.2.2.1, lit_64 h.2.2.2.2.2.1, lit_64 h.2.2.2.2.2.2.1, lit_64 h.2.2.2.2.2.2.2.1, lit_64 h.2.2.2.2.2.2.2.2.1, h.2.2.2.2.2.2.2.2.2⟩
end Go.Proofs.YtbgfcgmbihhlbaaDoor.Ev.CW
