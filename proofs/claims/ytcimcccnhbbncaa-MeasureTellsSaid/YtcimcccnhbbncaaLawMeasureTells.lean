/- The row. -/
import Derived.Test.YtcimcccnhbbncaaTabE
import Derived.Test.YtcimcccnhbbncaaMeasureTells
import Derived.Test.YtcimcccnhbbncaaEvRow
import Derived.WalkKit
import Derived.ProofKit
import Derived.OpenShut
import Derived.ShutString
import Derived.ChangeOld
import Derived.Below
import Derived.SizedLaws
namespace Go.Proofs.Ytcimcccnhbbncaa.measureTells
open Go.ChangeShapes Go.WideShapes Go.ChangeAt Go.RowKit Go.Proofs.Ytcimcccnhbbncaa.Ev
open Go.ChangeMaps (open_string shut_string)
set_option linter.unusedVariables false
set_option linter.unusedSimpArgs false
theorem own : ownKnob Try.prog.godebug = none := by kernel_rfl
theorem cells3 : Try.prog.cellsOf 3 = 1 := by kernel_rfl
theorem underS : Try.prog.underlying 22 = some (.slice 3) := by kernel_rfl
theorem walk {a0 : Value} {a1 : Value} {a2 : Value} (a3 : Int) (a4 : Int) (a5 : Int) (a6 : Int) (W : World) (wa3 : (Lit.int .i64 a3).wf = true) (wa4 : (Lit.int .i64 a4).wf = true) (wa5 : (Lit.int .i64 a5).wf = true) (wa6 : (Lit.int .i64 a6).wf = true)
    (va0 : a0 = .slice none 0 0 ∨ ∃ b off cap, ∃ zs : List Int, a0 = .slice (some ⟨b, off, none⟩) zs.length cap ∧ zs.length ≤ cap ∧ b < W.heap.size ∧ W.rangeAt b off (zs.map (Value.int .i64)) ∧ ∀ z ∈ zs, (Lit.int .i64 z).wf = true)
    (va1 : a1 = .slice none 0 0 ∨ ∃ b off cap, ∃ zs : List Int, a1 = .slice (some ⟨b, off, none⟩) zs.length cap ∧ zs.length ≤ cap ∧ b < W.heap.size ∧ W.rangeAt b off (zs.map (Value.int .i64)) ∧ ∀ z ∈ zs, (Lit.int .i64 z).wf = true)
    (va2 : a2 = .slice none 0 0 ∨ ∃ b off cap, ∃ zs : List Int, a2 = .slice (some ⟨b, off, none⟩) zs.length cap ∧ zs.length ≤ cap ∧ b < W.heap.size ∧ W.rangeAt b off (zs.map (Value.int .i64)) ∧ ∀ z ∈ zs, (Lit.int .i64 z).wf = true)
    : Calls Try.prog 7 #[a0, a1, a2, .int .i64 a3, .int .i64 a4, .int .i64 a5, .int .i64 a6] W fun e W' => e = .returned (.bool true) ∧ Below W.heap.size W W' := by
  obtain ⟨ρa0, ha0, ua0, la0, Ra0, xa0, na0, ka0, fa0, ca0, ia0, za0⟩ := give_ints (Rel.start W fun _ => ⟨0, 0, 0, 0, undef⟩) cells3 va0
  obtain ⟨ρa1, ha1, ua1, la1, Ra1, xa1, na1, ka1, fa1, ca1, ia1, za1⟩ := give_ints Ra0 cells3 va1
  rw [← c0_ext xa1 fa0] at ca0
  replace fa0 := wf_ext xa1 na1 fa0
  replace ia0 := IntA_keep ia0 ka1
  obtain ⟨ρa2, ha2, ua2, la2, Ra2, xa2, na2, ka2, fa2, ca2, ia2, za2⟩ := give_ints Ra1 cells3 va2
  rw [← c0_ext xa2 fa0] at ca0
  replace fa0 := wf_ext xa2 na2 fa0
  replace ia0 := IntA_keep ia0 ka2
  rw [← c0_ext xa2 fa1] at ca1
  replace fa1 := wf_ext xa2 na2 fa1
  replace ia1 := IntA_keep ia1 ka2
  obtain ⟨h', he, _⟩ := CE.measureTells_ok ia0 ia1 ia2 a3 a4 a5 a6  za0 za1 za2 (lit_64 wa3) (lit_64 wa4) (lit_64 wa5) (lit_64 wa6)
  have hc := calls_true CE.mixed CE.table he Ra2 (List.forall_mem_cons.2 ⟨fa0, (List.forall_mem_cons.2 ⟨fa1, (List.forall_mem_cons.2 ⟨fa2, (List.forall_mem_cons.2 ⟨trivial, (List.forall_mem_cons.2 ⟨trivial, (List.forall_mem_cons.2 ⟨trivial, (List.forall_mem_cons.2 ⟨trivial, (fun _ h => by cases h)⟩)⟩)⟩)⟩)⟩)⟩)⟩)
  rw [show (([.s ua0, .s ua1, .s ua2, .s (.int .i64 a3), .s (.int .i64 a4), .s (.int .i64 a5), .s (.int .i64 a6)] : List FV).map (cv ρa2)).toArray = #[c0 ρa2 ua0, c0 ρa2 ua1, c0 ρa2 ua2, .int .i64 a3, .int .i64 a4, .int .i64 a5, .int .i64 a6] from rfl, ca0, ca1, ca2] at hc
  exact hc
set_option maxRecDepth 100000 in
theorem lifted (os : Os) (started : os.Started) (H : Type) (enc : TypeId × Value → H) :
    ReturnsInHanded {} Try.checked os 7 .any (Rows.measureTellsSpec.pre6 enc Try.prog Try.f7 Rows.measureTellsRow.domain false) (Rows.measureTellsSpec.post enc Try.prog Try.f7 false true false false) := by
  refine returnsInHanded_of_change_sized (C := Try.checked) own started (by kernel_rfl) Try.func7
    (ChangeSpec.witness6 (enc := enc) (C := Try.checked) false ⟨#[], #[.slice none 0 0, .slice none 0 0, .slice none 0 0, .int .i64 0, .int .i64 0, .int .i64 0, .int .i64 0], []⟩ 8 (by kernel_rfl) (by kernel_rfl) (by kernel_rfl) (by kernel_rfl)) ?_
  intro W base args ds gs before hval0 hW hcnd hsz0 _
  have hsz : (DataW.weightsEach Try.prog (Try.f7.params.toList ++ Rows.measureTellsSpec.plain.varTypes Try.prog) (ds ++ gs)).all (· ≤ reachBytes) = true := hsz0
  have hval : ∀ (j : Nat) t v, Try.f7.params[j]? = some t → args[j]? = some v → Value.okWide Try.prog W .any base t v := hval0
  have hW' := hW
  obtain ⟨p, q, hA0, hV, rfl, hfz, hnd⟩ := hW
  have hA : DataW.TrodAll enc Try.prog W 0 (fun _ => true) true Try.f7.params.toList args.toList ds p := hA0
  rw [Try.params7] at hA hval hsz
  obtain ⟨v0, vs0, d0, ds0, p0, q0, hargs, rfl, rfl, h0, r0⟩ := trodAll_cons hA
  obtain ⟨v1, vs1, d1, ds1, p1, q1, rfl, rfl, rfl, h1, r1⟩ := trodAll_cons r0
  obtain ⟨v2, vs2, d2, ds2, p2, q2, rfl, rfl, rfl, h2, r2⟩ := trodAll_cons r1
  obtain ⟨v3, vs3, d3, ds3, p3, q3, rfl, rfl, rfl, h3, r3⟩ := trodAll_cons r2
  obtain ⟨v4, vs4, d4, ds4, p4, q4, rfl, rfl, rfl, h4, r4⟩ := trodAll_cons r3
  obtain ⟨v5, vs5, d5, ds5, p5, q5, rfl, rfl, rfl, h5, r5⟩ := trodAll_cons r4
  obtain ⟨v6, vs6, d6, ds6, p6, q6, rfl, rfl, rfl, h6, r6⟩ := trodAll_cons r5
  obtain ⟨rfl, rfl, rfl⟩ := trodAll_nil r6
  obtain rfl : args = #[v0, v1, v2, v3, v4, v5, v6] := by cases args; simp_all
  obtain ⟨rfl, rfl⟩ := trodVars_none hV
  have g0 := arg_ints underS Try.underlying3 cells3 (hval 0 22 v0 rfl rfl) h0
  have g1 := arg_ints underS Try.underlying3 cells3 (hval 1 22 v1 rfl rfl) h1
  have g2 := arg_ints underS Try.underlying3 cells3 (hval 2 22 v2 rfl rfl) h2
  obtain ⟨a3, rfl, rfl, rfl, w3⟩ := open_int Try.underlying3 (hval 3 3 v3 rfl rfl) h3
  obtain ⟨a4, rfl, rfl, rfl, w4⟩ := open_int Try.underlying3 (hval 4 3 v4 rfl rfl) h4
  obtain ⟨a5, rfl, rfl, rfl, w5⟩ := open_int Try.underlying3 (hval 5 3 v5 rfl rfl) h5
  obtain ⟨a6, rfl, rfl, rfl, w6⟩ := open_int Try.underlying3 (hval 6 3 v6 rfl rfl) h6
  refine (walk a3 a4 a5 a6 W w3 w4 w5 w6  g0 g1 g2).mono fun e W' ⟨he, bel⟩ => ?_
  subst he
  exact ⟨_, rfl, _, _, _, [], _, [], hW', trodAll_mk1 (shut_bool Try.underlying4 _), (trodAll_cons_mk (ints_back underS Try.underlying3 cells3 h0 bel) (trodAll_cons_mk (ints_back underS Try.underlying3 cells3 h1 bel) (trodAll_cons_mk (ints_back underS Try.underlying3 cells3 h2 bel) (trodAll_cons_mk (shut_int Try.underlying3 w3) (trodAll_cons_mk (shut_int Try.underlying3 w4) (trodAll_cons_mk (shut_int Try.underlying3 w5) (trodAll_cons_mk (shut_int Try.underlying3 w6) trodAll_mk0))))))), rfl, bel.frame _, fun h => by cases h⟩
theorem over : Rows.measureTellsRow.holds Try.pinned (OpenSpec.ofChange Rows.measureTellsSpec) :=
  OpenClaim.holds_of_wide 7 Try.f7 rfl rfl rfl rfl rfl rfl rfl ⟨rfl, rfl, rfl, rfl, rfl⟩ rfl rfl rfl rfl rfl (by kernel_rfl) Try.func7 (by kernel_rfl)
    (of_decide_eq_true (by kernel_rfl)) (by unfold Func.isWrapper; first | (rw [if_pos (by decide +kernel)]; kernel_rfl) | (rw [if_neg (by decide +kernel)]; exact ⟨rfl, rfl⟩))
    (fun os started H enc _ => lifted os started H enc)
theorem proved : Rows.MeasureTellsSaid := over
#print axioms proved
end Go.Proofs.Ytcimcccnhbbncaa.measureTells
namespace Go.Proofs.Ytcimcccnhbbncaa
/-- The row, under a short name, for the claim. -/
theorem measureTells_holds : Rows.MeasureTellsSaid := measureTells.proved
end Go.Proofs.Ytcimcccnhbbncaa
