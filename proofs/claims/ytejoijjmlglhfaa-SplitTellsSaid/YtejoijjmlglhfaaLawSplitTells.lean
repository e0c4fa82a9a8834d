/- The row. -/
import Derived.Test.YtejoijjmlglhfaaTabS
import Derived.Test.YtejoijjmlglhfaaSplitTells
import Derived.Test.YtejoijjmlglhfaaEvRow
import Derived.WalkKit
import Derived.ProofKit
import Derived.OpenShut
import Derived.ShutString
import Derived.ChangeOld
import Derived.Below
import Derived.SizedLaws
namespace Go.Proofs.Ytejoijjmlglhfaa.splitTells
open Go.ChangeShapes Go.WideShapes Go.ChangeAt Go.RowKit Go.Proofs.Ytejoijjmlglhfaa.Ev
open Go.ChangeMaps (open_string shut_string)
set_option linter.unusedVariables false
set_option linter.unusedSimpArgs false
theorem own : ownKnob Try.prog.godebug = none := by kernel_rfl
theorem cells3 : Try.prog.cellsOf 3 = 1 := by kernel_rfl
theorem underS : Try.prog.underlying 22 = some (.slice 3) := by kernel_rfl
theorem walk (a0 : Int) {a1 : Value} (a2 : Int) (W : World) (wa0 : (Lit.int .i64 a0).wf = true) (wa2 : (Lit.int .i64 a2).wf = true)
    (va1 : a1 = .slice none 0 0 ∨ ∃ b off cap, ∃ zs : List Int, a1 = .slice (some ⟨b, off, none⟩) zs.length cap ∧ zs.length ≤ cap ∧ b < W.heap.size ∧ W.rangeAt b off (zs.map (Value.int .i64)) ∧ ∀ z ∈ zs, (Lit.int .i64 z).wf = true)
    : Calls Try.prog 5 #[.int .i64 a0, a1, .int .i64 a2] W fun e W' => e = .returned (.bool true) ∧ Below W.heap.size W W' := by
  obtain ⟨ρa1, ha1, ua1, la1, Ra1, xa1, na1, ka1, fa1, ca1, ia1, za1⟩ := give_ints (Rel.start W fun _ => ⟨0, 0, 0, 0, undef⟩) cells3 va1
  obtain ⟨h', he, _⟩ := CS.splitTells_ok a0 ia1 a2  za1 (lit_64 wa0) (lit_64 wa2)
  have hc := calls_true CS.mixed CS.table he Ra1 (List.forall_mem_cons.2 ⟨trivial, (List.forall_mem_cons.2 ⟨fa1, (List.forall_mem_cons.2 ⟨trivial, (fun _ h => by cases h)⟩)⟩)⟩)
  rw [show (([.s (.int .i64 a0), .s ua1, .s (.int .i64 a2)] : List FV).map (cv ρa1)).toArray = #[.int .i64 a0, c0 ρa1 ua1, .int .i64 a2] from rfl, ca1] at hc
  exact hc
set_option maxRecDepth 100000 in
theorem lifted (os : Os) (started : os.Started) (H : Type) (enc : TypeId × Value → H) :
    ReturnsInHanded {} Try.checked os 5 .any (Rows.splitTellsSpec.pre6 enc Try.prog Try.f5 Rows.splitTellsRow.domain false) (Rows.splitTellsSpec.post enc Try.prog Try.f5 false true false false) := by
  refine returnsInHanded_of_change_sized (C := Try.checked) own started (by kernel_rfl) Try.func5
    (ChangeSpec.witness6 (enc := enc) (C := Try.checked) false ⟨#[], #[.int .i64 0, .slice none 0 0, .int .i64 0], []⟩ 8 (by kernel_rfl) (by kernel_rfl) (by kernel_rfl) (by kernel_rfl)) ?_
  intro W base args ds gs before hval0 hW hcnd hsz0 _
  have hsz : (DataW.weightsEach Try.prog (Try.f5.params.toList ++ Rows.splitTellsSpec.plain.varTypes Try.prog) (ds ++ gs)).all (· ≤ reachBytes) = true := hsz0
  have hval : ∀ (j : Nat) t v, Try.f5.params[j]? = some t → args[j]? = some v → Value.okWide Try.prog W .any base t v := hval0
  have hW' := hW
  obtain ⟨p, q, hA0, hV, rfl, hfz, hnd⟩ := hW
  have hA : DataW.TrodAll enc Try.prog W 0 (fun _ => true) true Try.f5.params.toList args.toList ds p := hA0
  rw [Try.params5] at hA hval hsz
  obtain ⟨v0, vs0, d0, ds0, p0, q0, hargs, rfl, rfl, h0, r0⟩ := trodAll_cons hA
  obtain ⟨v1, vs1, d1, ds1, p1, q1, rfl, rfl, rfl, h1, r1⟩ := trodAll_cons r0
  obtain ⟨v2, vs2, d2, ds2, p2, q2, rfl, rfl, rfl, h2, r2⟩ := trodAll_cons r1
  obtain ⟨rfl, rfl, rfl⟩ := trodAll_nil r2
  obtain rfl : args = #[v0, v1, v2] := by cases args; simp_all
  obtain ⟨rfl, rfl⟩ := trodVars_none hV
  obtain ⟨a0, rfl, rfl, rfl, w0⟩ := open_int Try.underlying3 (hval 0 3 v0 rfl rfl) h0
  have g1 := arg_ints underS Try.underlying3 cells3 (hval 1 22 v1 rfl rfl) h1
  obtain ⟨a2, rfl, rfl, rfl, w2⟩ := open_int Try.underlying3 (hval 2 3 v2 rfl rfl) h2
  refine (walk a0 a2 W w0 w2  g1).mono fun e W' ⟨he, bel⟩ => ?_
  subst he
  exact ⟨_, rfl, _, _, _, [], _, [], hW', trodAll_mk1 (shut_bool Try.underlying4 _), (trodAll_cons_mk (shut_int Try.underlying3 w0) (trodAll_cons_mk (ints_back underS Try.underlying3 cells3 h1 bel) (trodAll_cons_mk (shut_int Try.underlying3 w2) trodAll_mk0))), rfl, bel.frame _, fun h => by cases h⟩
theorem over : Rows.splitTellsRow.holds Try.pinned (OpenSpec.ofChange Rows.splitTellsSpec) :=
  OpenClaim.holds_of_wide 5 Try.f5 rfl rfl rfl rfl rfl rfl rfl ⟨rfl, rfl, rfl, rfl, rfl⟩ rfl rfl rfl rfl rfl (by kernel_rfl) Try.func5 (by kernel_rfl)
    (of_decide_eq_true (by kernel_rfl)) (by unfold Func.isWrapper; first | (rw [if_pos (by decide +kernel)]; kernel_rfl) | (rw [if_neg (by decide +kernel)]; exact ⟨rfl, rfl⟩))
    (fun os started H enc _ => lifted os started H enc)
theorem proved : Rows.SplitTellsSaid := over
#print axioms proved
end Go.Proofs.Ytejoijjmlglhfaa.splitTells
namespace Go.Proofs.Ytejoijjmlglhfaa
/-- The row, under a short name, for the claim. -/
theorem splitTells_holds : Rows.SplitTellsSaid := splitTells.proved
end Go.Proofs.Ytejoijjmlglhfaa
