/- The row. -/
import Derived.Test.YtbgfcgmbihhlbaaDoorTabW
import Derived.Test.YtbgfcgmbihhlbaaDoorWirePacks
import Derived.Test.YtbgfcgmbihhlbaaDoorEvRow
import Derived.Test.YtbgfcgmbihhlbaaDoorLaidW
import Derived.Test.YtbgfcgmbihhlbaaDoorTie
import Derived.Test.YtbgfcgmbihhlbaaDoorCards
import Derived.SevenTiedAt
import Derived.LaidMore
import Derived.Stop.Joined
import Derived.Lay
import Derived.Test.YtbgfcgmbihhlbaaDoorEvRow2
import Derived.WalkKit
import Derived.ProofKit
import Derived.OpenShut
import Derived.ShutString
import Derived.ChangeOld
import Derived.Below
import Derived.SizedLaws
namespace Go.Proofs.YtbgfcgmbihhlbaaDoor.wirePacks
open Go Go.ChangeShapes Go.WideShapes Go.ChangeAt Go.RowKit Go.Proofs.YtbgfcgmbihhlbaaDoor.Ev
open Go.ChangeMaps (open_string shut_string)
set_option linter.unusedVariables false
set_option linter.unusedSimpArgs false
theorem own : ownKnob Tryd.prog.godebug = none := by kernel_rfl
theorem underRp : Tryd.prog.underlying 39 = some (.slice 63) := by kernel_rfl
theorem cellsRp : Tryd.prog.cellsOf 63 = 5 := by kernel_rfl
theorem flatRp : flatB Tryd.prog 63 CW.pcK = true := by kernel_rfl
theorem ltRp : 39 < Tryd.prog.types.size := of_decide_eq_true (by kernel_rfl)
theorem underRc : Tryd.prog.underlying 33 = some (.slice 23) := by kernel_rfl
theorem cellsRc : Tryd.prog.cellsOf 23 = 12 := by kernel_rfl
theorem flatRc : flatB Tryd.prog 23 CW.cmK = true := by kernel_rfl
theorem ltRc : 33 < Tryd.prog.types.size := of_decide_eq_true (by kernel_rfl)
theorem kids : Kids Tryd.prog (· < Tryd.prog.types.size) := kids_rows (by kernel_rfl) (by kernel_rfl)
theorem full : ∀ t e, t < Tryd.prog.types.size → Tryd.prog.underlying t = some (.slice e) → 0 < Tryd.prog.cellsOf e := slices_full_of Tryd.prog (by kernel_rfl)
theorem cells3 : Tryd.prog.cellsOf 3 = 1 := by kernel_rfl
theorem underS : Tryd.prog.underlying 40 = some (.slice 3) := by kernel_rfl
theorem walk {a0 : Value} {a1 : Value} {a2 : Value} (W : World) (hgd : CW.Gd (W0 W)) 
    (va0 : a0 = .slice none 0 0 ∨ ∃ b off cap, ∃ l : List CW.Pc, a0 = .slice (some ⟨b, off, none⟩) l.length cap ∧ l.length ≤ cap ∧ b < W.heap.size ∧ (∀ ρ, W.rangeAt b off ((l.flatMap CW.encP).map (c0 ρ))) ∧ (∀ a ∈ l, CW.goodP a) ∧ ∀ a ∈ l, (CW.encP a).length = 5)
    (va1 : a1 = .slice none 0 0 ∨ ∃ b off cap, ∃ l : List CK.Cm, a1 = .slice (some ⟨b, off, none⟩) l.length cap ∧ l.length ≤ cap ∧ b < W.heap.size ∧ (∀ ρ, W.rangeAt b off ((l.flatMap CK.encC).map (c0 ρ))) ∧ (∀ a ∈ l, CW.goodC a) ∧ ∀ a ∈ l, (CK.encC a).length = 12)
    (va2 : a2 = .slice none 0 0 ∨ ∃ b off cap, ∃ zs : List Int, a2 = .slice (some ⟨b, off, none⟩) zs.length cap ∧ zs.length ≤ cap ∧ b < W.heap.size ∧ W.rangeAt b off (zs.map (Value.int .i64)) ∧ ∀ z ∈ zs, (Lit.int .i64 z).wf = true)
    : Calls Tryd.prog 4 #[a0, a1, a2] W fun e W' => e = .returned (.bool true) ∧ Below W.heap.size W W' := by
  obtain ⟨ρa0, ha0, ua0, la0, Ra0, xa0, na0, ka0, fa0, ca0, ia0, za0⟩ := give_rows (Rel.start W fun _ => ⟨0, 0, 0, 0, undef⟩) cellsRp (fun a u hu => ⟨CW.encP_flat a u hu _ _, CW.encP_flat a u hu⟩) va0
  obtain ⟨ρa1, ha1, ua1, la1, Ra1, xa1, na1, ka1, fa1, ca1, ia1, za1⟩ := give_rows Ra0 cellsRc (fun a u hu => ⟨CW.encC_flat a u hu _ _, CW.encC_flat a u hu⟩) va1
  rw [← c0_ext xa1 fa0] at ca0
  replace fa0 := wf_ext xa1 na1 fa0
  replace ia0 := RowA_keep ia0 ka1
  obtain ⟨ρa2, ha2, ua2, la2, Ra2, xa2, na2, ka2, fa2, ca2, ia2, za2⟩ := give_ints Ra1 cells3 va2
  rw [← c0_ext xa2 fa0] at ca0
  replace fa0 := wf_ext xa2 na2 fa0
  replace ia0 := RowA_keep ia0 ka2
  rw [← c0_ext xa2 fa1] at ca1
  replace fa1 := wf_ext xa2 na2 fa1
  replace ia1 := RowA_keep ia1 ka2
  obtain ⟨h', he, _⟩ := CW.wirePacks_row ia0 ia1 ia2  za0 za1 za2 
  have hc := calls_trueG CW.stays CW.mixed CW.table he hgd Ra2 (List.forall_mem_cons.2 ⟨fa0, (List.forall_mem_cons.2 ⟨fa1, (List.forall_mem_cons.2 ⟨fa2, (fun _ h => by cases h)⟩)⟩)⟩)
  rw [show (([.s ua0, .s ua1, .s ua2] : List FV).map (cv ρa2)).toArray = #[c0 ρa2 ua0, c0 ρa2 ua1, c0 ρa2 ua2] from rfl, ca0, ca1, ca2] at hc
  exact hc
set_option maxRecDepth 100000 in
theorem lifted (os : Os) (started : os.Started) (H : Type) (enc : TypeId × Value → H) :
    ReturnsInHanded {} Tryd.checked os 4 .any (fun w args => (Rows.wirePacksSpec.pre enc Tryd.prog Tryd.f4 [] false w args ∧ laidMetH Tryd.prog CW.laidL w) ∧ sizedMet enc Tryd.prog Tryd.f4 (OpenSpec.ofChange Rows.wirePacksSpec) false w args)
      (Rows.wirePacksSpec.post enc Tryd.prog Tryd.f4 false true false false) := by
  refine returnsInHanded_of_change_and (C := Tryd.checked) (X := fun w _ => laidMetH Tryd.prog CW.laidL w) (fun _ _ _ hh h => h.of_heap hh) own started (by kernel_rfl) Tryd.func4
    (ChangeSpec.witness_shaped (enc := enc) (C := Tryd.checked) (os := os) (X := fun w _ => laidMetH Tryd.prog CW.laidL w) false (World.laidAll Tryd.prog os CW.laidL) #[.slice none 0 0, .slice none 0 0, .slice none 0 0] 8 (World.laidAll_os _ _ _) (World.shaped_of_ZipB (by kernel_rfl) (by kernel_rfl)) (by kernel_rfl) (by kernel_rfl) (by kernel_rfl) (CW.door_met os _)) ?_
  intro W base args ds gs before hval0 hW hcnd hsz0 hL _
  have hsz : (DataW.weightsEach Tryd.prog (Tryd.f4.params.toList ++ Rows.wirePacksSpec.plain.varTypes Tryd.prog) (ds ++ gs)).all (· ≤ reachBytes) = true := hsz0
  have hval : ∀ (j : Nat) t v, Tryd.f4.params[j]? = some t → args[j]? = some v → Value.okWide Tryd.prog W .any base t v := hval0
  have hW' := hW
  obtain ⟨p, q, hA0, hV, rfl, hfz, hnd⟩ := hW
  have hA : DataW.TrodAll enc Tryd.prog W 0 (fun _ => true) true Tryd.f4.params.toList args.toList ds p := hA0
  rw [Tryd.params4] at hA hval hsz
  obtain ⟨v0, vs0, d0, ds0, p0, q0, hargs, rfl, rfl, h0, r0⟩ := trodAll_cons hA
  obtain ⟨v1, vs1, d1, ds1, p1, q1, rfl, rfl, rfl, h1, r1⟩ := trodAll_cons r0
  obtain ⟨v2, vs2, d2, ds2, p2, q2, rfl, rfl, rfl, h2, r2⟩ := trodAll_cons r1
  obtain ⟨rfl, rfl, rfl⟩ := trodAll_nil r2
  obtain rfl : args = #[v0, v1, v2] := by cases args; simp_all
  obtain ⟨rfl, rfl⟩ := trodVars_none hV
  have g0 := arg_rows underRp flatRp (en := CW.encP) (good := CW.goodP) CW.pcE (hval 0 39 v0 rfl rfl) h0
  have g1 := arg_rows underRc flatRc (en := CK.encC) (good := CW.goodC) CW.cmE (hval 1 33 v1 rfl rfl) h1
  have g2 := arg_ints underS Tryd.underlying3 cells3 (hval 2 40 v2 rfl rfl) h2
  refine (walk  W (CW.good_of hL)   g0 g1 g2).mono fun e W' ⟨he, bel⟩ => ?_
  subst he
  exact ⟨_, rfl, _, _, _, [], _, [], hW', trodAll_mk1 (shut_bool Tryd.underlying4 _), (trodAll_cons_mk (arg_back kids full ltRp h0 bel) (trodAll_cons_mk (arg_back kids full ltRc h1 bel) (trodAll_cons_mk (ints_back underS Tryd.underlying3 cells3 h2 bel) trodAll_mk0))), rfl, bel.frame _, fun h => by cases h⟩
theorem over : Rows.wirePacksRow.holds Tryd.pinned (OpenSpec.ofChange Rows.wirePacksSpec) :=
  OpenClaim.holds_of_wide 4 Tryd.f4 rfl rfl rfl rfl rfl rfl rfl ⟨rfl, rfl, rfl, rfl, rfl⟩ rfl rfl rfl rfl rfl (by kernel_rfl) Tryd.func4 (by kernel_rfl)
    (of_decide_eq_true (by kernel_rfl)) (by unfold Func.isWrapper; first | (rw [if_pos (by decide +kernel)]; kernel_rfl) | (rw [if_neg (by decide +kernel)]; exact ⟨rfl, rfl⟩))
    (fun os started H enc _ => lifted os started H enc)
theorem proved : Rows.WirePacksSaid := over
theorem card : Rows.WirePacksCardSaid :=
  Claim7.holds_tied_plain_at .later [] [.data, .pinned] true (true, "8ad5552aa7f1bbfca38b6966cec6ed8b9645e2f234b950e2bf953db9bcf2331b") false
    proved (fun _ h => by cases h) (by kernel_rfl) (fun _ h => by cases h) wirePacks_row_tie rfl ⟨rfl, rfl⟩ (by kernel_rfl) rfl
    (fun f fn hf hfn => by
      obtain rfl : f = 4 := Option.some.inj ((show Tryd.prog.funcNamed "scutage/scutagelaw27.WirePacks" = some 4 by kernel_rfl).symm.trans hf) |>.symm
      obtain rfl : fn = Tryd.f4 := (Option.some.inj (Tryd.func4.symm.trans hfn)).symm
      exact ⟨by kernel_rfl, fun j t ht => by
        have hall : (Tryd.f4.params.toList.all fun t => !Tryd.prog.wantsStandIn t) = true := by kernel_rfl
        have hm : t ∈ Tryd.f4.params.toList := Array.mem_toList_iff.2 (Array.mem_of_getElem? ht)
        have hx : Tryd.prog.wantsStandIn t = false := by simpa using List.all_eq_true.1 hall t hm
        exact hx⟩)
    (by kernel_rfl)
#print axioms card
end Go.Proofs.YtbgfcgmbihhlbaaDoor.wirePacks
namespace Go.Proofs.YtbgfcgmbihhlbaaDoor
/-- The tied card, under a short name, for the claim. -/
theorem wirePacks_holds : Rows.WirePacksCardSaid := wirePacks.card
end Go.Proofs.YtbgfcgmbihhlbaaDoor
