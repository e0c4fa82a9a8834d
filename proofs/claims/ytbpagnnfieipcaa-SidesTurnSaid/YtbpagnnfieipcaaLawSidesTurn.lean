/- The row. -/
import Derived.Test.YtbpagnnfieipcaaTabT
import Derived.Test.YtbpagnnfieipcaaSidesTurn
import Derived.Test.YtbpagnnfieipcaaEvRow
import Derived.WalkKit
import Derived.ProofKit
import Derived.OpenShut
import Derived.ShutString
import Derived.ChangeOld
import Derived.Below
import Derived.SizedLaws
namespace Go.Proofs.Ytbpagnnfieipcaa.sidesTurn
open Go.ChangeShapes Go.WideShapes Go.ChangeAt Go.RowKit Go.Proofs.Ytbpagnnfieipcaa.Ev
open Go.ChangeMaps (open_string shut_string)
set_option linter.unusedVariables false
set_option linter.unusedSimpArgs false
theorem own : ownKnob Try.prog.godebug = none := by kernel_rfl
theorem cells3 : Try.prog.cellsOf 3 = 1 := by kernel_rfl
theorem underS : Try.prog.underlying 44 = some (.slice 3) := by kernel_rfl
theorem walk {a0 : Value} (W : World) 
    (va0 : a0 = .slice none 0 0 ∨ ∃ b off cap, ∃ zs : List Int, a0 = .slice (some ⟨b, off, none⟩) zs.length cap ∧ zs.length ≤ cap ∧ b < W.heap.size ∧ W.rangeAt b off (zs.map (Value.int .i64)) ∧ ∀ z ∈ zs, (Lit.int .i64 z).wf = true)
    : Calls Try.prog 14 #[a0] W fun e W' => e = .returned (.bool true) ∧ Below W.heap.size W W' := by
  obtain ⟨ρa0, ha0, ua0, la0, Ra0, xa0, na0, ka0, fa0, ca0, ia0, za0⟩ := give_ints (Rel.start W fun _ => ⟨0, 0, 0, 0, undef⟩) cells3 va0
  obtain ⟨h', he, _⟩ := CT.sidesTurn_ok ia0   
  have hc := calls_true CT.mixed CT.table he Ra0 (List.forall_mem_cons.2 ⟨fa0, (fun _ h => by cases h)⟩)
  rw [show (([.s ua0] : List FV).map (cv ρa0)).toArray = #[c0 ρa0 ua0] from rfl, ca0] at hc
  exact hc
set_option maxRecDepth 100000 in
theorem lifted (os : Os) (started : os.Started) (H : Type) (enc : TypeId × Value → H) :
    ReturnsInHanded {} Try.checked os 14 .any (Rows.sidesTurnSpec.pre6 enc Try.prog Try.f14 Rows.sidesTurnRow.domain false) (Rows.sidesTurnSpec.post enc Try.prog Try.f14 false true false false) := by
  refine returnsInHanded_of_change_sized (C := Try.checked) own started (by kernel_rfl) Try.func14
    (ChangeSpec.witness6 (enc := enc) (C := Try.checked) false ⟨#[], #[.slice none 0 0], []⟩ 8 (by kernel_rfl) (by kernel_rfl) (by kernel_rfl) (by kernel_rfl)) ?_
  intro W base args ds gs before hval0 hW hcnd hsz0 _
  have hsz : (DataW.weightsEach Try.prog (Try.f14.params.toList ++ Rows.sidesTurnSpec.plain.varTypes Try.prog) (ds ++ gs)).all (· ≤ reachBytes) = true := hsz0
  have hval : ∀ (j : Nat) t v, Try.f14.params[j]? = some t → args[j]? = some v → Value.okWide Try.prog W .any base t v := hval0
  have hW' := hW
  obtain ⟨p, q, hA0, hV, rfl, hfz, hnd⟩ := hW
  have hA : DataW.TrodAll enc Try.prog W 0 (fun _ => true) true Try.f14.params.toList args.toList ds p := hA0
  rw [Try.params14] at hA hval hsz
  obtain ⟨v0, vs0, d0, ds0, p0, q0, hargs, rfl, rfl, h0, r0⟩ := trodAll_cons hA
  obtain ⟨rfl, rfl, rfl⟩ := trodAll_nil r0
  obtain rfl : args = #[v0] := by cases args; simp_all
  obtain ⟨rfl, rfl⟩ := trodVars_none hV
  have g0 := arg_ints underS Try.underlying3 cells3 (hval 0 44 v0 rfl rfl) h0
  refine (walk  W   g0).mono fun e W' ⟨he, bel⟩ => ?_
  subst he
  exact ⟨_, rfl, _, _, _, [], _, [], hW', trodAll_mk1 (shut_bool Try.underlying4 _), (trodAll_cons_mk (ints_back underS Try.underlying3 cells3 h0 bel) trodAll_mk0), rfl, bel.frame _, fun h => by cases h⟩
theorem over : Rows.sidesTurnRow.holds Try.pinned (OpenSpec.ofChange Rows.sidesTurnSpec) :=
  OpenClaim.holds_of_wide 14 Try.f14 rfl rfl rfl rfl rfl rfl rfl ⟨rfl, rfl, rfl, rfl, rfl⟩ rfl rfl rfl rfl rfl (by kernel_rfl) Try.func14 (by kernel_rfl)
    (of_decide_eq_true (by kernel_rfl)) (by unfold Func.isWrapper; first | (rw [if_pos (by decide +kernel)]; kernel_rfl) | (rw [if_neg (by decide +kernel)]; exact ⟨rfl, rfl⟩))
    (fun os started H enc _ => lifted os started H enc)
theorem proved : Rows.SidesTurnSaid := over
#print axioms proved
end Go.Proofs.Ytbpagnnfieipcaa.sidesTurn
namespace Go.Proofs.Ytbpagnnfieipcaa
/-- The row, under a short name, for the claim. -/
theorem sidesTurn_holds : Rows.SidesTurnSaid := sidesTurn.proved
end Go.Proofs.Ytbpagnnfieipcaa
