/- Every operation but a call: the small machine's answer is the model's. -/
import Derived.Test.YtiljgimcipdadaaGreatDoorEvOps5
set_option linter.unusedVariables false
set_option linter.unusedSimpArgs false
namespace Go.Proofs.YtiljgimcipdadaaGreatDoor.Ev
open Go Go.RowKit

variable {P : Program} {w0 : Base}
section
variable {ρ : Nat → Ph} {h : LH} {w : World} {N : Nat} {fr : Fr} {a : Act}

theorem isSlice_ne {t : TypeId} {e : TypeId} (ht : P.underlying t = some (.slice e)) : ∀ n e', P.underlying t ≠ some (.array n e') := by
  rw [ht]; simp

theorem opE_ok (R : Rel P w0 ρ h w) (hF : FrR ρ h.length N fr a) {o : Oper} {e : EO} (hc : compOp P o.type o.op = some e) {v : FV} {h' : LH} (he : opE fr h e = some (v, h')) : Res P w0 ρ h w (execOp a.eval o) v h' := by
  unfold execOp
  cases hop : o.op <;> rw [hop] at hc <;> simp only [compOp] at hc <;> try (cases hc; done)
  case panic x =>
    obtain rfl := Option.some.inj hc
    simp [opE, odS, odE] at he
  case move x =>
    obtain ⟨y, hy, rfl⟩ := Option.map_eq_some_iff.1 hc
    simp only [opE] at he
    obtain ⟨u, hu, hq⟩ := Option.map_eq_some_iff.1 he
    obtain ⟨rfl, rfl⟩ := Prod.mk.inj hq
    obtain ⟨e1, e2⟩ := od_sound hF hy hu
    exact Res.same R (by simp only; rw [e1]; rfl) e2
  case assign x =>
    obtain ⟨y, hy, rfl⟩ := Option.map_eq_some_iff.1 hc
    simp only [opE] at he
    obtain ⟨u, hu, hq⟩ := Option.map_eq_some_iff.1 he
    obtain ⟨rfl, rfl⟩ := Prod.mk.inj hq
    obtain ⟨e1, e2⟩ := od_sound hF hy hu
    exact Res.same R (by simp only; rw [e1]; rfl) e2
  case pick c x y =>
    split at hc
    · rename_i c' x' y' h1 h2 h3
      obtain rfl := Option.some.inj hc
      simp only [opE] at he
      split at he
      · rename_i t p q g1 g2 g3
        simp only [Option.some.injEq, Prod.mk.injEq] at he
        obtain ⟨rfl, rfl⟩ := he
        obtain ⟨e1, _⟩ := ods_sound hF h1 g1
        obtain ⟨e2, w2⟩ := od_sound hF h2 g2
        obtain ⟨e3, w3⟩ := od_sound hF h3 g3
        refine Res.same R ?_ ?_
        · simp only [e1, e2, e3, c0, asBool, Sem.run_bind, Sem.run_pure, Result.andThen_ok]
          cases t <;> rfl
        · cases t
          · exact w3
          · exact w2
      · cases he
    · cases hc
  case alloc t =>
    split at hc
    · rename_i n z ht hz
      split at hc
      · rename_i h0
        obtain rfl := Option.some.inj hc
        simp only [opE, odE, Option.bind_some, fcells] at he
        split at he
        · rename_i hn
          simp only [Option.some.injEq, Prod.mk.injEq] at he
          obtain ⟨rfl, rfl⟩ := he
          obtain ⟨i, u, hi, hu, hcell, hwf⟩ := zeroOf_ok hz ρ
          refine new_ok R ht (fv := .agg z) (hwf _) rfl hn ?_
          have hcc : (cv ρ (.agg z)).cells = (z.map (c0 ρ)).toArray := rfl
          simp [Instr.alloc, run_zeroValue_ok hi hu, newVar, hcell, hcc]
        · cases he
      · cases hc
    · rename_i u1 ht hz
      obtain rfl := Option.some.inj hc
      simp only [opE, odE, Option.bind_some, fcells] at he
      split at he
      · rename_i hn
        simp only [Option.some.injEq, Prod.mk.injEq] at he
        obtain ⟨rfl, rfl⟩ := he
        obtain ⟨i, u, hi, hu, hcell, hwf⟩ := zeroOf_ok hz ρ
        have hw1 : wfV ρ h.length (.s u1) := hwf _ u1 List.mem_cons_self
        refine new_ok R ht (fv := .s u1) hw1 rfl hn ?_
        have hcc := cells_cv (ρ := ρ) (v := .s u1) (l := [u1]) rfl hw1
        simp [Instr.alloc, run_zeroValue_ok hi hu, newVar, hcell, hcc]
      · cases he
    · cases hc
  case box t x =>
    split at hc
    · rename_i g n y ht hy
      split at hc
      · obtain rfl := Option.some.inj hc
        simp only [opE] at he
        split at he
        · rename_i l hl
          split at he
          · rename_i hn
            simp only [Option.some.injEq, Prod.mk.injEq] at he
            obtain ⟨rfl, rfl⟩ := he
            obtain ⟨u, hu, hfc⟩ := Option.bind_eq_some_iff.1 hl
            obtain ⟨e1, e2⟩ := od_sound hF hy hu
            exact new_ok R ht e2 hfc hn (by rw [e1]; simp [Instr.box])
          · cases he
        · cases he
      · cases hc
    · cases hc
  case build t parts =>
    split at hc
    · rename_i z pl hz hp
      obtain ⟨ps, hps, rfl⟩ := Option.map_eq_some_iff.1 hc
      exact build_ok R hF hz hp hps he
    · cases hc
  case buildSlice t n parts =>
    split at hc
    · rename_i e' ht
      split at hc
      · rename_i i z hi hz
        split at hc
        · rename_i hle
          split at hc
          · rename_i h0
            split at hc
            · rename_i hzl
              obtain ⟨ps, hps, rfl⟩ := Option.map_eq_some_iff.1 hc
              exact bsl_ok R hF (elemOfS_ok ht) hi hz hle h0 hzl hps he
            · cases hc
          · cases hc
        · cases hc
      · cases hc
    · cases hc
  case load t x =>
    split at hc
    · rename_i g n y ht hy
      obtain rfl := Option.some.inj hc
      exact load_ok R hF ht hy he
    · cases hc
  case store t x z =>
    split at hc
    · rename_i g n y y' ht hy hy'
      obtain rfl := Option.some.inj hc
      exact store_ok R hF ht hy hy' he
    · cases hc
  case nilCheck x =>
    split at hc
    · obtain ⟨y, hy, rfl⟩ := Option.map_eq_some_iff.1 hc
      simp only [opE] at he
      split at he
      · rename_i i hs
        obtain ⟨e1, e2⟩ := ods_sound hF hy hs
        split at he
        · rename_i f fs cs hob
          simp only [Option.some.injEq, Prod.mk.injEq] at he
          obtain ⟨rfl, rfl⟩ := he
          obtain ⟨q1, q2, q3⟩ := R.obj i _ hob
          refine Res.same R ?_ e2
          have hv : a.eval x = .func (.func f) (fs.map (c1 ρ)).toArray (cs.map (c1 ρ)).toArray := by rw [e1]; exact q1
          have hw' : cv ρ (.s (.cl i)) = .func (.func f) (fs.map (c1 ρ)).toArray (cs.map (c1 ρ)).toArray := q1
          simp only [hv, hw', Sem.run_pure]
        · cases he
      · rename_i f hs
        simp only [Option.some.injEq, Prod.mk.injEq] at he
        obtain ⟨rfl, rfl⟩ := he
        obtain ⟨e1, e2⟩ := ods_sound hF hy hs
        refine Res.same R ?_ e2
        simp only [e1, c0, Sem.run_pure, cv]
      · cases he
    · obtain ⟨y, hy, rfl⟩ := Option.map_eq_some_iff.1 hc
      simp only [opE] at he
      split at he
      · rename_i i p hs
        simp only [Option.some.injEq, Prod.mk.injEq] at he
        obtain ⟨rfl, rfl⟩ := he
        obtain ⟨e1, e2⟩ := ods_sound hF hy hs
        refine Res.same R ?_ e2
        simp only [e1, c0, Sem.run_pure, cv]
      · cases he
  case binOp op t x y q =>
    split at hc
    · rename_i x' y' hx hy
      have bin : e = .bin op x' y' → Res P w0 ρ h w (do pure (Next.value (← (do eqGuard op t x y (a.eval x) (a.eval y); binOp op t (a.eval x) (a.eval y) : Sem Value)))) v h' := by
        rintro rfl
        simp only [opE] at he
        split at he
        · rename_i p r hp hr
          obtain ⟨u, hu, hq⟩ := Option.map_eq_some_iff.1 he
          obtain ⟨rfl, rfl⟩ := Prod.mk.inj hq
          refine Res.val R ?_ (binE_wf hu _)
          rw [(ods_sound hF hx hp).1, (ods_sound hF hy hr).1]
          exact run_binE hu t x y
        · cases he
      have eqs : (op = .eql ∨ op = .neq) → compBin P op t x' y' = some e → Res P w0 ρ h w (do pure (Next.value (← (do eqGuard op t x y (a.eval x) (a.eval y); binOp op t (a.eval x) (a.eval y) : Sem Value)))) v h' := by
        intro hop hcb
        have hcb' : (match P.underlying t with
            | some .bool => some (EO.eqb (decide (op = .neq)) x' y')
            | some (.pointer _) => some (.eqp (decide (op = .neq)) x' y')
            | some (.slice _) => some (.eqn (decide (op = .neq)) x' y')
            | some (.struct fs) =>
              if P.eqGuardType P.depth t then none
              else if P.stoodInHeld t then none
              else (eqPlaces P fs.toList).map fun l => .eqs (decide (op = .neq)) l x' y'
            | some (.int _) | some .string | some (.float _) | some (.complex _) => some (.bin op x' y')
            | _ => none) = some e := by
          rcases hop with rfl | rfl <;> exact hcb
        split at hcb'
        · rename_i hu
          obtain rfl := Option.some.inj hcb'
          simp only [opE] at he
          split at he
          · rename_i p r hp hr
            simp only [Option.some.injEq, Prod.mk.injEq] at he
            obtain ⟨rfl, rfl⟩ := he
            refine Res.val R ?_ (by simp [neqB, wfV, wf])
            rw [(ods_sound hF hx hp).1, (ods_sound hF hy hr).1]
            exact run_eqb hu p r hop x y
          · cases he
        · rename_i hu
          obtain rfl := Option.some.inj hcb'
          simp only [opE] at he
          split at he
          · rename_i p r hp hr
            obtain ⟨u, hu', hq⟩ := Option.map_eq_some_iff.1 he
            obtain ⟨rfl, rfl⟩ := Prod.mk.inj hq
            refine Res.val R ?_ (by simp [neqB, wfV, wf])
            rw [(ods_sound hF hx hp).1, (ods_sound hF hy hr).1]
            exact run_eqpE hu hu' hop x y
          · cases he
        · rename_i hu
          obtain rfl := Option.some.inj hcb'
          simp only [opE] at he
          split at he
          · rename_i p r hp hr
            obtain ⟨u, hu', hq⟩ := Option.map_eq_some_iff.1 he
            obtain ⟨rfl, rfl⟩ := Prod.mk.inj hq
            refine Res.val R ?_ (by simp [neqB, wfV, wf])
            rw [(ods_sound hF hx hp).1, (ods_sound hF hy hr).1]
            exact run_eqnE hu hu' hop x y
          · cases he
        · rename_i fs hu
          split at hcb'
          · cases hcb'
          · rename_i hg
            split at hcb'
            · cases hcb'
            · rename_i hst
              obtain ⟨l, hl, rfl⟩ := Option.map_eq_some_iff.1 hcb'
              simp only [opE] at he
              split at he
              · rename_i p r hp hr
                obtain ⟨u, hu', hq⟩ := Option.map_eq_some_iff.1 he
                obtain ⟨rfl, rfl⟩ := Prod.mk.inj hq
                refine Res.val R ?_ (by simp [neqB, wfV, wf])
                rw [(od_sound hF hx hp).1, (od_sound hF hy hr).1]
                exact run_eqs hu (by simpa using hg) (by simpa using hst) hl hu' hop x y
              · cases he
        all_goals first
          | exact bin (Option.some.inj hcb').symm
          | cases hcb'
      cases op <;> first
        | exact eqs (.inl rfl) hc
        | exact eqs (.inr rfl) hc
        | exact bin (Option.some.inj hc).symm
    · cases hc
  case unOp op t x =>
    obtain ⟨y, hy, rfl⟩ := Option.map_eq_some_iff.1 hc
    simp only [opE] at he
    split at he
    · rename_i u hu
      obtain ⟨r, hr, hq⟩ := Option.map_eq_some_iff.1 he
      obtain ⟨rfl, rfl⟩ := Prod.mk.inj hq
      obtain ⟨q1, q2⟩ := unE_ok (P := P) (w := w) (ρ := ρ) hr
      refine Res.val R ?_ (q2 _)
      rw [(ods_sound hF hy hu).1]
      exact q1
    · cases he
  case convert src dst x =>
    split at hc
    · rename_i y hy
      split at hc
      · rename_i k1 k hs hd
        obtain rfl := Option.some.inj hc
        simp only [opE] at he
        split at he
        · rename_i k2 n hn
          simp only [Option.some.injEq, Prod.mk.injEq] at he
          obtain ⟨rfl, rfl⟩ := he
          refine Res.val R ?_ trivial
          rw [(ods_sound hF hy hn).1]
          simp only [convert, Sem.run_bind, run_underlying hs, run_underlying hd, Result.andThen_ok, c0, Conv.intToInt, Sem.run_pure, cv]
        · cases he
      · rename_i k1 k hs hd
        obtain rfl := Option.some.inj hc
        simp only [opE] at he
        split at he
        · rename_i k2 n hn
          simp only [Option.some.injEq, Prod.mk.injEq] at he
          obtain ⟨rfl, rfl⟩ := he
          refine Res.val R ?_ trivial
          rw [(ods_sound hF hy hn).1]
          simp only [convert, Sem.run_bind, run_underlying hs, run_underlying hd, Result.andThen_ok, c0, Conv.intToFloat, Sem.run_pure, cv]
        · cases he
      · rename_i k1 k hs hd
        obtain rfl := Option.some.inj hc
        simp only [opE] at he
        split at he
        · rename_i k2 n hn
          split at he
          · rename_i m hm
            split at he
            · rename_i hle
              simp only [Option.some.injEq, Prod.mk.injEq] at he
              obtain ⟨rfl, rfl⟩ := he
              refine Res.val R ?_ trivial
              rw [(ods_sound hF hy hn).1]
              simp only [convert, Sem.run_bind, run_underlying hs, run_underlying hd, Result.andThen_ok, c0, Conv.floatToInt, hm, hle, and_self, if_true, Sem.run_pure, cv]
            · cases he
          · cases he
        · cases he
      · rename_i e' hs hd
        split at hc
        · rename_i hu8
          obtain ⟨i, hi, hc⟩ := Option.bind_eq_some_iff.1 hc
          split at hc
          · rename_i h1
            obtain rfl := Option.some.inj hc
            refine b2s_ok R hF hs hd ?_ hi h1 hy he
            simpa using hu8
          · cases hc
        · cases hc
      · rename_i e' hs hd
        split at hc
        · rename_i hu8
          obtain ⟨i, hi, hc⟩ := Option.bind_eq_some_iff.1 hc
          split at hc
          · rename_i h1
            obtain rfl := Option.some.inj hc
            refine s2b_ok R hF hs hd ?_ hi h1 hy he
            simpa using hu8
          · cases hc
        · cases hc
      · cases hc
    · cases hc
  case range t x =>
    split at hc
    · rename_i ht
      obtain ⟨y, hy, rfl⟩ := Option.map_eq_some_iff.1 hc
      exact rng_ok R hF (isStr_ok ht) hy he
    · cases hc
  case next x s =>
    split at hc
    · rename_i hs
      subst hs
      obtain ⟨y, hy, rfl⟩ := Option.map_eq_some_iff.1 hc
      exact nxt_ok R hF hy he
    · cases hc
  case makeMap t r =>
    split at hc
    · rename_i hr
      obtain rfl := Option.some.inj hc
      rw [Option.isNone_iff_eq_none] at hr
      subst hr
      exact mkm_ok R he
    · cases hc
  case insert t m k x =>
    split at hc
    · rename_i q e' m' k' x' ht hm hk hx
      obtain rfl := Option.some.inj hc
      exact mput_ok R hF ht hm hk hx he
    · cases hc
  case mapUpdate t m k x =>
    split at hc
    · rename_i q e' m' k' x' ht hm hk hx
      obtain rfl := Option.some.inj hc
      exact mput_ok R hF ht hm hk hx he
    · cases hc
  case lookup t m k ok =>
    split at hc
    · rename_i q e' m' k' ht hm hk
      split at hc
      · rename_i z hz
        split at hc
        · rename_i hn
          obtain rfl := Option.some.inj hc
          exact mget_ok R hF ht hz hn hm hk he
        · cases hc
      · cases hc
    · cases hc
  case makeInterface t x =>
    split at hc
    · cases hc
    · rename_i d y hni hu hy
      obtain rfl := Option.some.inj hc
      exact mki_ok R hF hu (fun ms hd => by subst hd; exact hni _ rfl) hy he
    · cases hc
  case makeFunc fn first caps =>
    cases fn <;> simp only at hc <;> try (cases hc; done)
    split at hc
    · split at hc
      · rename_i x y hx hy
        obtain rfl := Option.some.inj hc
        exact mkf_ok R hF hx hy he
      · cases hc
    · cases hc
  case makeSlice t l c =>
    split at hc
    · rename_i e' y ht hy
      split at hc
      · rename_i i z hi hz
        split at hc
        · rename_i hs
          split at hc
          · rename_i h0
            split at hc
            · rename_i hzl
              obtain rfl := Option.some.inj hc
              exact mks_ok R hF (elemOfS_ok ht) hi hz hs h0.1 h0.2 hzl hy he
            · cases hc
          · cases hc
        · cases hc
      · cases hc
    · cases hc
  case slice t x lo hi mx =>
    cases mx with
    | some m =>
      simp only at hc
      split at hc
      · rename_i e' y u ht hy
        split at hc
        · rename_i hn
          obtain rfl := Option.some.inj hc
          rw [Bool.and_eq_true, Bool.and_eq_true] at hn
          obtain ⟨i, hi'⟩ := Option.isSome_iff_exists.1 hn.2
          exact sli0_ok R hF (elemOfS_ok ht) hi' hy hn.1.1 hn.1.2 he
        · cases hc
      · cases hc
    | none =>
      simp only at hc
      split at hc
      · rename_i y l u hy hl hu
        split at hc
        · rename_i hstr
          obtain rfl := Option.some.inj hc
          exact subs_ok R hF hy hl hu (isStr_ok hstr) he
        · split at hc
          · rename_i e' ht
            obtain ⟨i, hi', hc⟩ := Option.bind_eq_some_iff.1 hc
            split at hc
            · obtain rfl := Option.some.inj hc
              exact sli_ok R hF hy hl hu (elemOfS_ok ht) hi' rfl he
            · cases hc
          · cases hc
      · cases hc
  case fieldAddr s x f =>
    split at hc
    · rename_i g y hg hy
      obtain ⟨i, hi, hc⟩ := Option.bind_eq_some_iff.1 hc
      split at hc
      · rename_i h0
        obtain rfl := Option.some.inj hc
        exact fad_ok R hF hg hi h0 hy he
      · cases hc
    · cases hc
  case field s x f =>
    split at hc
    · rename_i g y hg hy
      obtain ⟨⟨q, n⟩, ht, rfl⟩ := Option.map_eq_some_iff.1 hc
      exact fld_ok R hF hg ht hy he
    · cases hc
  case indexAddr t x i =>
    split at hc
    · rename_i e' y j ht hy hj
      obtain ⟨i', hi, hc⟩ := Option.bind_eq_some_iff.1 hc
      split at hc
      · obtain rfl := Option.some.inj hc
        exact iad_ok R hF (elemOfS_ok ht) hi hy hj he
      · cases hc
    · cases hc
  case index t x i =>
    split at hc
    · rename_i y j ht hy hj
      obtain rfl := Option.some.inj hc
      exact idx_ok R hF (isStr_ok ht) hy hj he
    · cases hc
  case extract x i =>
    obtain ⟨y, hy, rfl⟩ := Option.map_eq_some_iff.1 hc
    exact ext_ok R hF hy he
  case call c =>
    unfold compCall at hc
    split at hc
    · rename_i b hb
      obtain ⟨ys, hys, hc⟩ := Option.bind_eq_some_iff.1 hc
      simp only [resolve, hb, pure_bind, invoke]
      exact builtin_ok R hF hys hc he
    · split at hc
      · obtain ⟨ys, hys, rfl⟩ := Option.map_eq_some_iff.1 hc
        cases he
      · cases hc
    · obtain ⟨ys, hys, rfl⟩ := Option.map_eq_some_iff.1 hc
      cases he
    · cases hc

end
end Go.Proofs.YtiljgimcipdadaaGreatDoor.Ev
