/- The row. -/
import Derived.Test.YtcimcccnhbbncaaTabE
import Derived.Test.YtcimcccnhbbncaaEnactOrder
import Derived.Test.YtcimcccnhbbncaaEvRow
import Derived.Test.YtcimcccnhbbncaaEvRow2
import Derived.WalkKit
import Derived.ProofKit
import Derived.OpenShut
import Derived.ShutString
import Derived.ChangeOld
import Derived.Below
import Derived.SizedLaws
namespace Go.Proofs.Ytcimcccnhbbncaa.enactOrder
open Go.ChangeShapes Go.WideShapes Go.ChangeAt Go.RowKit Go.Proofs.Ytcimcccnhbbncaa.Ev
open Go.ChangeMaps (open_string shut_string)
set_option linter.unusedVariables false
set_option linter.unusedSimpArgs false
theorem own : ownKnob Try.prog.godebug = none := by kernel_rfl
theorem underR : Try.prog.underlying 66 = some (.slice 68) := by kernel_rfl
theorem cellsR : Try.prog.cellsOf 68 = 5 := by kernel_rfl
theorem flatR : flatB Try.prog 68 CE.actK = true := by kernel_rfl
theorem kids : Kids Try.prog (· < Try.prog.types.size) := kids_rows (by kernel_rfl) (by kernel_rfl)
theorem full : ∀ t e, t < Try.prog.types.size → Try.prog.underlying t = some (.slice e) → 0 < Try.prog.cellsOf e := slices_full_of Try.prog (by kernel_rfl)
theorem ltR : 66 < Try.prog.types.size := of_decide_eq_true (by kernel_rfl)
theorem walk {a0 : Value} (a1 : Int) (a2 : Int) (W : World) 
    (va0 : a0 = .slice none 0 0 ∨ ∃ b off cap, ∃ l : List CE.Act, a0 = .slice (some ⟨b, off, none⟩) l.length cap ∧ l.length ≤ cap ∧ b < W.heap.size ∧ (∀ ρ, W.rangeAt b off ((l.flatMap CE.encA).map (c0 ρ))) ∧ (∀ a ∈ l, CE.goodA a) ∧ ∀ a ∈ l, (CE.encA a).length = 5)
    : Calls Try.prog 9 #[a0, .int .i64 a1, .int .i64 a2] W fun e W' => e = .returned (.bool true) ∧ Below W.heap.size W W' := by
  obtain ⟨ρa0, ha0, ua0, la0, Ra0, xa0, na0, ka0, fa0, ca0, ia0, za0⟩ := give_rows (Rel.start W fun _ => ⟨0, 0, 0, 0, undef⟩) cellsR (fun a u hu => ⟨CE.encA_flat a u hu _ _, CE.encA_flat a u hu⟩) va0
  obtain ⟨h', he, _⟩ := CE.enactOrder_ok ia0 a1 a2   
  have hc := calls_true CE.mixed CE.table he Ra0 (List.forall_mem_cons.2 ⟨fa0, (List.forall_mem_cons.2 ⟨trivial, (List.forall_mem_cons.2 ⟨trivial, (fun _ h => by cases h)⟩)⟩)⟩)
  rw [show (([.s ua0, .s (.int .i64 a1), .s (.int .i64 a2)] : List FV).map (cv ρa0)).toArray = #[c0 ρa0 ua0, .int .i64 a1, .int .i64 a2] from rfl, ca0] at hc
  exact hc
set_option maxRecDepth 100000 in
theorem lifted (os : Os) (started : os.Started) (H : Type) (enc : TypeId × Value → H) :
    ReturnsInHanded {} Try.checked os 9 .any (Rows.enactOrderSpec.pre6 enc Try.prog Try.f9 Rows.enactOrderRow.domain false) (Rows.enactOrderSpec.post enc Try.prog Try.f9 false true false false) := by
  refine returnsInHanded_of_change_sized (C := Try.checked) own started (by kernel_rfl) Try.func9
    (ChangeSpec.witness6 (enc := enc) (C := Try.checked) false ⟨#[], #[.slice none 0 0, .int .i64 0, .int .i64 0], []⟩ 8 (by kernel_rfl) (by kernel_rfl) (by kernel_rfl) (by kernel_rfl)) ?_
  intro W base args ds gs before hval0 hW hcnd hsz0 _
  have hsz : (DataW.weightsEach Try.prog (Try.f9.params.toList ++ Rows.enactOrderSpec.plain.varTypes Try.prog) (ds ++ gs)).all (· ≤ reachBytes) = true := hsz0
  have hval : ∀ (j : Nat) t v, Try.f9.params[j]? = some t → args[j]? = some v → Value.okWide Try.prog W .any base t v := hval0
  have hW' := hW
  obtain ⟨p, q, hA0, hV, rfl, hfz, hnd⟩ := hW
  have hA : DataW.TrodAll enc Try.prog W 0 (fun _ => true) true Try.f9.params.toList args.toList ds p := hA0
  rw [Try.params9] at hA hval hsz
  obtain ⟨v0, vs0, d0, ds0, p0, q0, hargs, rfl, rfl, h0, r0⟩ := trodAll_cons hA
  obtain ⟨v1, vs1, d1, ds1, p1, q1, rfl, rfl, rfl, h1, r1⟩ := trodAll_cons r0
  obtain ⟨v2, vs2, d2, ds2, p2, q2, rfl, rfl, rfl, h2, r2⟩ := trodAll_cons r1
  obtain ⟨rfl, rfl, rfl⟩ := trodAll_nil r2
  obtain rfl : args = #[v0, v1, v2] := by cases args; simp_all
  obtain ⟨rfl, rfl⟩ := trodVars_none hV
  have g0 := arg_rows underR flatR (en := CE.encA) (good := CE.goodA) CE.actE (hval 0 66 v0 rfl rfl) h0
  obtain ⟨a1, rfl, rfl, rfl, w1⟩ := open_int Try.underlying3 (hval 1 3 v1 rfl rfl) h1
  obtain ⟨a2, rfl, rfl, rfl, w2⟩ := open_int Try.underlying3 (hval 2 3 v2 rfl rfl) h2
  refine (walk a1 a2 W   g0).mono fun e W' ⟨he, bel⟩ => ?_
  subst he
  exact ⟨_, rfl, _, _, _, [], _, [], hW', trodAll_mk1 (shut_bool Try.underlying4 _), (trodAll_cons_mk (arg_back kids full ltR h0 bel) (trodAll_cons_mk (shut_int Try.underlying3 w1) (trodAll_cons_mk (shut_int Try.underlying3 w2) trodAll_mk0))), rfl, bel.frame _, fun h => by cases h⟩
theorem over : Rows.enactOrderRow.holds Try.pinned (OpenSpec.ofChange Rows.enactOrderSpec) :=
  OpenClaim.holds_of_wide 9 Try.f9 rfl rfl rfl rfl rfl rfl rfl ⟨rfl, rfl, rfl, rfl, rfl⟩ rfl rfl rfl rfl rfl (by kernel_rfl) Try.func9 (by kernel_rfl)
    (of_decide_eq_true (by kernel_rfl)) (by unfold Func.isWrapper; first | (rw [if_pos (by decide +kernel)]; kernel_rfl) | (rw [if_neg (by decide +kernel)]; exact ⟨rfl, rfl⟩))
    (fun os started H enc _ => lifted os started H enc)
theorem proved : Rows.EnactOrderSaid := over
#print axioms proved
end Go.Proofs.Ytcimcccnhbbncaa.enactOrder
namespace Go.Proofs.Ytcimcccnhbbncaa
/-- The row, under a short name, for the claim. -/
theorem enactOrder_holds : Rows.EnactOrderSaid := enactOrder.proved
end Go.Proofs.Ytcimcccnhbbncaa
