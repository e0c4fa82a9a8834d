/- Calls, regions, code: the small machine tells the truth of the model. -/
import Derived.Test.YtiljgimcipdadaaGreatDoorEvOps6
set_option linter.unusedVariables false
set_option linter.unusedSimpArgs false
namespace Go.Proofs.YtiljgimcipdadaaGreatDoor.Ev
open Go Go.RowKit

variable {P : Program} {w0 : Base}

/-- What a call comes to. -/
def CallOK (P : Program) (w0 : Base) (call : CallE) : Prop :=
  ∀ (f : Nat) (args : List FV) (h : LH) (v : FV) (h' : LH) (ρ : Nat → Ph) (w : World), call f args h = some (v, h') → Rel P w0 ρ h w → (∀ u ∈ args, wfV ρ h.length u) →
    (∃ fn, P.funcs[f]? = some fn ∧ fn.name ≠ "runtime.NumGoroutine" ∧ fn.body.isSome = true) ∧
    Calls P f (args.map (cv ρ)).toArray w fun e w' => ∃ ρ', e = .returned (cv ρ' v) ∧ Rel P w0 ρ' h' w' ∧ Ext h.length ρ ρ' ∧ h.length ≤ h'.length ∧ wfV ρ' h'.length v

section
variable {ρ : Nat → Ph} {h : LH} {w : World} {N : Nat} {fr : Fr} {a : Act} {Q : Exit → Act → World → Prop}

theorem run_callFunc {f : Nat} {args : Array Value} (hf : ∃ fn, P.funcs[f]? = some fn ∧ fn.name ≠ "runtime.NumGoroutine" ∧ fn.body.isSome = true) : (callFunc f args).run P w = .ok (.enter f args) w := by
  obtain ⟨fn, h1, h2, h3⟩ := hf
  have h4 : fn.body.isNone = false := by
    cases hb : fn.body
    · rw [hb] at h3; cases h3
    · rfl
  have hn : (fn.name == "runtime.NumGoroutine") = false := by simpa using h2
  simp [callFunc, h1, h2, hn, h4, -Option.isNone_eq_false_iff, -Option.isNone_iff_eq_none]

theorem c1_cv {v : FV} {n : Nat} (hv : wf1 ρ n v) : c1 ρ v = cv ρ v := (cv_of_wf1 hv).symm

/-- What a call's operation enters. -/
theorem callee_run (R : Rel P w0 ρ h w) (hF : FrR ρ h.length N fr a) {o : Oper} {e : EO} (hc : compOp P o.type o.op = some e) (hi : callOp o.op = true) {f : Nat} {args : List FV} (he : calleeE fr h e = some (f, args)) :
    (∀ u ∈ args, wfV ρ h.length u) ∧ ((∃ fn, P.funcs[f]? = some fn ∧ fn.name ≠ "runtime.NumGoroutine" ∧ fn.body.isSome = true) →
    (execOp a.eval o).run P w = .ok (.enter f (args.map (cv ρ)).toArray) w) := by
  cases hop : o.op
  case call c =>
    rw [hop] at hc
    unfold execOp
    rw [hop]
    simp only [compOp, compCall] at hc
    split at hc
    · rename_i b hb
      rw [hop] at hi
      simp [callOp, hb] at hi
    · rename_i f' hcal
      split at hc
      · obtain ⟨ys, hys, rfl⟩ := Option.map_eq_some_iff.1 hc
        simp only [calleeE] at he
        obtain ⟨vs, hvs, hq⟩ := Option.map_eq_some_iff.1 he
        obtain ⟨rfl, rfl⟩ := Prod.mk.inj hq
        obtain ⟨e1, e2⟩ := compODs_ok hF hys hvs
        refine ⟨e2, fun hf => ?_⟩
        have ea : c.args.map a.eval = (vs.map (cv ρ)).toArray := by apply Array.ext'; simpa using e1
        simp only [resolve, hcal, Act.eval, Deferred.ofValue, pure_bind, invoke]
        have : c.args.map (fun x => a.eval x) = (vs.map (cv ρ)).toArray := ea
        have hsimp : (#[] ++ Array.map a.eval c.args) ++ #[] = (vs.map (cv ρ)).toArray := by simp [ea]
        rw [← hsimp]
        simp only [hsimp]
        first
          | exact run_callFunc hf
          | (rw [show (#[] ++ Array.map a.eval c.args ++ #[] : Array Value) = (vs.map (cv ρ)).toArray from hsimp]; exact run_callFunc hf)
      · cases hc
    · rename_i t hcal
      obtain ⟨ys, hys, rfl⟩ := Option.map_eq_some_iff.1 hc
      simp only [calleeE] at he
      split at he
      · rename_i f' vs hf' hvs
        obtain ⟨rfl, rfl⟩ := Prod.mk.inj (Option.some.inj he)
        obtain ⟨e1, e2⟩ := compODs_ok hF hys hvs
        obtain ⟨e3, _⟩ := ods_sound (x := .tmp t) hF rfl hf'
        refine ⟨e2, fun hf => ?_⟩
        have ea : c.args.map a.eval = (vs.map (cv ρ)).toArray := by apply Array.ext'; simpa using e1
        simp only [resolve, hcal, e3, c0, Deferred.ofValue, pure_bind, invoke]
        rw [show (#[] ++ Array.map a.eval c.args ++ #[] : Array Value) = (vs.map (cv ρ)).toArray by simp [ea]]
        exact run_callFunc hf
      · rename_i i vs hi' hvs
        split at he
        · rename_i f' first caps hob
          obtain ⟨rfl, rfl⟩ := Prod.mk.inj (Option.some.inj he)
          obtain ⟨e1, e2⟩ := compODs_ok hF hys hvs
          obtain ⟨e3, _⟩ := ods_sound (x := .tmp t) hF rfl hi'
          obtain ⟨q1, q2, q3⟩ := R.obj i _ hob
          refine ⟨fun u hu => ?_, fun hf => ?_⟩
          · rcases List.mem_append.1 hu with hu | hu
            · rcases List.mem_append.1 hu with hu | hu
              · exact wfV_of_wf1 (q2 u hu)
              · exact e2 u hu
            · exact wfV_of_wf1 (q3 u hu)
          · have ea : c.args.map a.eval = (vs.map (cv ρ)).toArray := by apply Array.ext'; simpa using e1
            have e4 : a.eval (.tmp t) = .func (.func f') (first.map (c1 ρ)).toArray (caps.map (c1 ρ)).toArray := by rw [e3]; exact q1
            simp only [resolve, hcal, e4, Deferred.ofValue, pure_bind, invoke]
            rw [show ((first.map (c1 ρ)).toArray ++ Array.map a.eval c.args ++ (caps.map (c1 ρ)).toArray : Array Value) = ((first ++ vs ++ caps).map (cv ρ)).toArray by
              rw [ea, List.map_append, List.map_append, List.map_congr_left fun u hu => c1_cv (q2 u hu), List.map_congr_left fun u hu => c1_cv (q3 u hu)]
              simp]
            exact run_callFunc hf
        · cases he
      · cases he
    · cases hc
  all_goals
    rw [hop] at hi; cases hi

theorem step_ok {call : CallE} (hcall : CallOK P w0 call) (R : Rel P w0 ρ h w) (hF : FrR ρ h.length N fr a) {o : Oper} {e : EO} (hc : compOp P o.type o.op = some e) (hn : isCall e = true → callOp o.op = true) {v : FV} {h' : LH} (he : stepE call fr h e = some (v, h'))
    {K : Act → World → Prop} (hK : ∀ ρ' w', Rel P w0 ρ' h' w' → Ext h.length ρ ρ' → h.length ≤ h'.length → wfV ρ' h'.length v → K (a.put o.dst (cv ρ' v)) w') : o.wp P a w K Q := by
  unfold stepE at he
  split at he
  · rename_i hi
    split at he
    · rename_i f args hce
      obtain ⟨hwf, hrun⟩ := callee_run R hF hc (hn hi) hce
      obtain ⟨hf, hcalls⟩ := hcall f args h v h' ρ w he R hwf
      unfold Oper.wp
      rw [hrun hf, Oper.upon_enter]
      refine Calls.mono hcalls fun e w' hq => ?_
      obtain ⟨ρ', rfl, q1, q2, q3, q4⟩ := hq
      exact hK ρ' w' q1 q2 q3 q4
    · cases he
  · obtain ⟨r, ρ', w', hr, hrv, q1, q2, q3, q4⟩ := opE_ok R hF hc he
    unfold Oper.wp
    rw [hr]
    rcases hrv with rfl | ⟨rfl, hu⟩
    · rw [Oper.upon_value]; exact hK ρ' w' q1 q2 q3 q4
    · rw [Oper.upon_skip, ← hu]; exact hK ρ' w' q1 q2 q3 q4

theorem compG_ok {ops : Array Oper} {o : Oper} {g : EG} (hc : compG P N ops o = some g) :
    (∀ t, o.dst = some t → t < N) ∧ g.dst = o.dst ∧ (compOp P o.type o.op = some g.op ∧ (isCall g.op = true → callOp o.op = true)) ∧ ((o.guard = none ∧ g.guard = none) ∨ ∃ j b s, o.guard = some (j, b) ∧ (ops[j]?).bind (·.dst) = some s ∧ g.guard = some (s, b)) := by
  unfold compG at hc
  split at hc
  · rename_i hd
    have hd' : ∀ t, o.dst = some t → t < N := by
      intro t ht
      rw [ht] at hd
      exact of_decide_eq_true hd
    split at hc
    · rename_i e he
      split at hc
      · cases hc
      · rename_i hcall
        have hcall' : isCall e = true → callOp o.op = true := by
          intro h1
          rw [h1] at hcall
          simpa using hcall
        split at hc
        · rename_i hg
          obtain rfl := Option.some.inj hc
          exact ⟨hd', rfl, ⟨he, hcall'⟩, .inl ⟨hg, rfl⟩⟩
        · rename_i j b hg
          split at hc
          · rename_i s hs
            obtain rfl := Option.some.inj hc
            exact ⟨hd', rfl, ⟨he, hcall'⟩, .inr ⟨j, b, s, hg, hs, rfl⟩⟩
          · cases hc
    · cases hc
  · cases hc

theorem want_ok {n : Nat} (hF : FrR ρ n N fr a) {ops : Array Oper} {o : Oper} {g : EG} (hc : compG P N ops o = some g) {b : Bool} (he : wantE fr g.guard = some b) : Region.wanted o (yielded ops a.tmps) = b := by
  obtain ⟨_, _, _, hg⟩ := compG_ok hc
  unfold Region.wanted
  rcases hg with ⟨h1, h2⟩ | ⟨j, c, s, h1, h2, h3⟩
  · rw [h2] at he
    rw [h1]
    exact Option.some.inj he
  · rw [h3] at he
    rw [h1]
    simp only [wantE] at he
    have key : ∀ v, fget fr s = some v → a.tmps[s]? = some (cv ρ v) := by
      intro v hv
      obtain ⟨q1, q2, q3⟩ := hF.get s v hv
      have hs : s < a.tmps.size := by rw [hF.size]; exact q1
      rw [Array.getElem?_eq_getElem hs]
      rw [Array.getD_eq_getD_getElem?, Array.getElem?_eq_getElem hs] at q2
      exact congrArg some q2
    split at he
    · rename_i t ht
      obtain rfl := Option.some.inj he
      have := key _ ht
      simp only [yielded, h2, Option.bind_some, this, cv, c0]
      cases t <;> cases c <;> rfl
    · rename_i ht
      obtain rfl := Option.some.inj he
      have := key _ ht
      simp only [yielded, h2, Option.bind_some, this, cv]
      cases c <;> rfl
    · cases he

theorem ops_ok {call : CallE} (hcall : CallOK P w0 call) {ops : Array Oper} : ∀ (l : List Oper) (gs : List EG) (fr : Fr) (h : LH) (fr' : Fr) (h' : LH) (ρ : Nat → Ph) (a : Act) (w : World), compL P N ops l = some gs → opsE call gs fr h = some (fr', h') → Rel P w0 ρ h w → FrR ρ h.length N fr a →
    (∀ ρ' a' w', Rel P w0 ρ' h' w' → FrR ρ' h'.length N fr' a' → Ext h.length ρ ρ' → h.length ≤ h'.length → Q .normal a' w') → wpList P ops Q l a w
  | [], gs, fr, h, fr', h', ρ, a, w, hc, he, R, hF, hQ => by
    simp only [compL, Option.some.injEq] at hc
    subst hc
    simp only [opsE, Option.some.injEq, Prod.mk.injEq] at he
    obtain ⟨rfl, rfl⟩ := he
    exact hQ ρ a w R hF (Ext.refl _ _) (Nat.le_refl _)
  | o :: l, gs, fr, h, fr', h', ρ, a, w, hc, he, R, hF, hQ => by
    simp only [compL] at hc
    split at hc
    · rename_i g hg
      obtain ⟨gs', hgs, rfl⟩ := Option.map_eq_some_iff.1 hc
      obtain ⟨d1, d2, d3, d4⟩ := compG_ok hg
      simp only [opsE] at he
      unfold wpList
      split at he
      · rename_i hw
        rw [want_ok hF hg hw, if_pos rfl]
        split at he
        · rename_i v h1 hs
          refine .inl (step_ok hcall R hF d3.1 d3.2 hs fun ρ1 w1 q1 q2 q3 q4 => ?_)
          rw [d2] at he
          exact ops_ok hcall l gs' _ h1 fr' h' ρ1 _ w1 hgs he q1 ((hF.ext q2 q3).put d1 q4) (fun ρ2 a2 w2 r1 r2 r3 r4 => hQ ρ2 a2 w2 r1 r2 (q2.trans q3 r3) (by omega))
        · cases he
      · rename_i hw
        rw [want_ok hF hg hw, if_neg (by decide)]
        rw [d2] at he
        have hu : (undef : Value) = cv ρ (.tup []) := rfl
        rw [hu]
        exact ops_ok hcall l gs' _ h fr' h' ρ _ w hgs he R (hF.put d1 (v := .tup []) (fun v hv => by cases hv)) hQ
      · cases he
    · cases hc

end
end Go.Proofs.YtiljgimcipdadaaGreatDoor.Ev
