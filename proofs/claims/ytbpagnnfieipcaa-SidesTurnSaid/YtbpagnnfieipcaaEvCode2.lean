/- Code and calls: the small machine tells the truth of the model. -/
import Derived.Test.YtbpagnnfieipcaaEvDraw
set_option linter.unusedVariables false
set_option linter.unusedSimpArgs false
namespace Go.Proofs.Ytbpagnnfieipcaa.Ev
open Go Go.RowKit

variable {P : Program} {w0 : Base}

def exOf : Ex → Exit
  | .normal => .normal
  | .exit id => .exit id
  | .goto l => .goto l
  | .ret => .ret

section
variable {N : Nat}

theorem code_ok (hm : P.follows .mixedOrders = true) {call : CallE} (hcall : ∀ w0, CallOK P w0 call) (hgrow : Grows call) (n : Nat) : ∀ (c : Code) (hs : List (List Nat)) (ec : EC) (hs' : List (List Nat)), compC P N c hs = some (ec, hs') →
    ∀ (fr : Fr) (h : LH) (ex : Ex) (fr' : Fr) (h' : LH), codeE call n ec fr h = some (ex, fr', h') → ∀ (ρ : Nat → Ph) (a : Act) (w : World), Rel P w0 ρ h w → FrR ρ h.length N fr a →
    ∀ (Q : Exit → Act → World → Prop), (∀ ρ' a' w', Rel P w0 ρ' h' w' → FrR ρ' h'.length N fr' a' → Ext h.length ρ ρ' → h.length ≤ h'.length → Q (exOf ex) a' w') → c.wp P Q a w := by
  intro c
  induction c with
  | skip =>
    intro hs ec hs' hc fr h ex fr' h' he ρ a w R hF Q hQ
    simp only [compC, Option.some.injEq, Prod.mk.injEq] at hc
    obtain ⟨rfl, rfl⟩ := hc
    simp only [codeE, Option.some.injEq, Prod.mk.injEq] at he
    obtain ⟨rfl, rfl, rfl⟩ := he
    exact wp_skip (hQ ρ a w R hF (Ext.refl _ _) (Nat.le_refl _))
  | region id ops dr =>
    intro hs ec hs' hc fr h ex fr' h' he ρ a w R hF Q hQ
    cases dr with
    | false =>
      simp only [compC] at hc
      obtain ⟨l, hl, hq⟩ := Option.map_eq_some_iff.1 hc
      obtain ⟨rfl, rfl⟩ := Prod.mk.inj hq
      simp only [codeE] at he
      obtain ⟨⟨fr1, h1⟩, h2, hq⟩ := Option.map_eq_some_iff.1 he
      simp only [Prod.mk.injEq] at hq
      obtain ⟨rfl, rfl, rfl⟩ := hq
      exact wp_region_list (ops_ok (hcall w0) ops.toList l fr h _ _ ρ a w hl h2 R hF fun ρ' a' w' q1 q2 => hQ ρ' a' w' q1 (q2.keep _))
    | true =>
      simp only [compC] at hc
      split at hc
      · rename_i l hl
        split at hc
        · rename_i hd
          obtain ⟨rfl, rfl⟩ := Prod.mk.inj (Option.some.inj hc)
          simp only [codeE] at he
          obtain ⟨⟨fr1, h1⟩, h2, hq⟩ := Option.map_eq_some_iff.1 he
          simp only [Prod.mk.injEq] at hq
          obtain ⟨rfl, rfl, rfl⟩ := hq
          exact draw_ok hm hcall hgrow hl hd h2 R hF fun ρ' a' w' q1 q2 => hQ ρ' a' w' q1 (q2.keep _)
        · cases hc
      · cases hc
  | seq x y ihx ihy =>
    intro hs ec hs' hc fr h ex fr' h' he ρ a w R hF Q hQ
    simp only [compC] at hc
    split at hc
    · rename_i x' hs1 hx
      obtain ⟨⟨y', hs2⟩, hy, hq⟩ := Option.map_eq_some_iff.1 hc
      obtain ⟨rfl, rfl⟩ := Prod.mk.inj hq
      simp only [codeE] at he
      refine wp_seq ?_
      split at he
      · rename_i fr1 h1 he1
        refine ihx _ _ _ hx fr h _ fr1 h1 he1 ρ a w R hF _ (fun ρ1 a1 w1 q1 q2 q3 q4 => ?_)
        exact ihy _ _ _ hy fr1 h1 ex fr' h' he ρ1 a1 w1 q1 q2 Q (fun ρ2 a2 w2 r1 r2 r3 r4 => hQ ρ2 a2 w2 r1 r2 (q3.trans q4 r3) (by omega))
      · rename_i hne
        refine ihx _ _ _ hx fr h ex fr' h' he ρ a w R hF _ (fun ρ1 a1 w1 q1 q2 q3 q4 => ?_)
        have := hQ ρ1 a1 w1 q1 q2 q3 q4
        cases ex with
        | normal => exact absurd he (hne _ _)
        | exit id => exact this
        | goto l => exact this
        | ret => exact this
    · cases hc
  | cond c x y ihx ihy =>
    intro hs ec hs' hc fr h ex fr' h' he ρ a w R hF Q hQ
    simp only [compC] at hc
    split at hc
    · rename_i c' x' hs1 hcc hx
      obtain ⟨⟨y', hs2⟩, hy, hq⟩ := Option.map_eq_some_iff.1 hc
      obtain ⟨rfl, rfl⟩ := Prod.mk.inj hq
      simp only [codeE] at he
      split at he
      · rename_i t ht
        obtain ⟨e1, _⟩ := ods_sound hF hcc ht
        refine wp_cond (t := t) (by rw [e1]; rfl) ?_
        cases t with
        | true => exact ihx _ _ _ hx fr h ex fr' h' he ρ a w R hF Q hQ
        | false => exact ihy _ _ _ hy fr h ex fr' h' he ρ a w R hF Q hQ
      · cases he
    · cases hc
  | block id b ih =>
    intro hs ec hs' hc fr h ex fr' h' he ρ a w R hF Q hQ
    simp only [compC] at hc
    obtain ⟨⟨b', hs1⟩, hb, hq⟩ := Option.map_eq_some_iff.1 hc
    obtain ⟨rfl, rfl⟩ := Prod.mk.inj hq
    simp only [codeE] at he
    refine wp_block ?_
    split at he
    · rename_i id' fr1 h1 he1
      refine ih _ _ _ hb fr h _ fr1 h1 he1 ρ a w R hF _ (fun ρ1 a1 w1 q1 q2 q3 q4 => ?_)
      simp only [exOf, Exit.inBlock]
      split at he
      · rename_i hid
        simp only [Option.some.injEq, Prod.mk.injEq] at he
        obtain ⟨rfl, rfl, rfl⟩ := he
        rw [if_pos hid]; exact hQ ρ1 a1 w1 q1 q2 q3 q4
      · rename_i hid
        simp only [Option.some.injEq, Prod.mk.injEq] at he
        obtain ⟨rfl, rfl, rfl⟩ := he
        rw [if_neg hid]; exact hQ ρ1 a1 w1 q1 q2 q3 q4
    · rename_i hne
      refine ih _ _ _ hb fr h ex fr' h' he ρ a w R hF _ (fun ρ1 a1 w1 q1 q2 q3 q4 => ?_)
      have := hQ ρ1 a1 w1 q1 q2 q3 q4
      cases ex with
      | normal => exact this
      | exit id => exact absurd he (hne _ _ _)
      | goto l => exact this
      | ret => exact this
  | loop b ih =>
    intro hs ec hs' hc fr h ex fr' h' he ρ a w R hF Q hQ
    simp only [compC] at hc
    obtain ⟨⟨b', hs1⟩, hb, hq⟩ := Option.map_eq_some_iff.1 hc
    obtain ⟨rfl, rfl⟩ := Prod.mk.inj hq
    simp only [codeE] at he
    refine wp_loop_rounds n ?_
    have key : ∀ (m : Nat) (fr : Fr) (h : LH) (ρ : Nat → Ph) (a : Act) (w : World), loopN (codeE call n b') (takeHint hs).1 m fr h = some (ex, fr', h') → Rel P w0 ρ h w → FrR ρ h.length N fr a →
        (∀ ρ' a' w', Rel P w0 ρ' h' w' → FrR ρ' h'.length N fr' a' → Ext h.length ρ ρ' → h.length ≤ h'.length → Q (exOf ex) a' w') → Code.rounds P b Q m a w := by
      intro m
      induction m with
      | zero => intro fr h ρ a w he; cases he
      | succ m ihm =>
        intro fr h ρ a w he R hF hQ
        simp only [loopN] at he
        rw [rounds_succ]
        split at he
        · rename_i fr1 h1 he1
          refine ih _ _ _ hb _ h _ fr1 h1 he1 ρ a w R (hF.keep _) _ (fun ρ1 a1 w1 q1 q2 q3 q4 => ?_)
          exact ihm fr1 h1 ρ1 a1 w1 he q1 q2 (fun ρ2 a2 w2 r1 r2 r3 r4 => hQ ρ2 a2 w2 r1 r2 (q3.trans q4 r3) (by omega))
        · rename_i hne
          refine ih _ _ _ hb _ h ex fr' h' he ρ a w R (hF.keep _) _ (fun ρ1 a1 w1 q1 q2 q3 q4 => ?_)
          have := hQ ρ1 a1 w1 q1 q2 q3 q4
          cases ex with
          | normal => exact absurd he (hne _ _)
          | exit id => exact this
          | goto l => exact this
          | ret => exact this
    exact key n fr h ρ a w he R hF hQ
  | exit id =>
    intro hs ec hs' hc fr h ex fr' h' he ρ a w R hF Q hQ
    simp only [compC, Option.some.injEq, Prod.mk.injEq] at hc
    obtain ⟨rfl, rfl⟩ := hc
    simp only [codeE, Option.some.injEq, Prod.mk.injEq] at he
    obtain ⟨rfl, rfl, rfl⟩ := he
    exact wp_exit (hQ ρ a w R (hF.keep _) (Ext.refl _ _) (Nat.le_refl _))
  | ret =>
    intro hs ec hs' hc fr h ex fr' h' he ρ a w R hF Q hQ
    simp only [compC, Option.some.injEq, Prod.mk.injEq] at hc
    obtain ⟨rfl, rfl⟩ := hc
    simp only [codeE, Option.some.injEq, Prod.mk.injEq] at he
    obtain ⟨rfl, rfl, rfl⟩ := he
    exact wp_ret (hQ ρ a w R (hF.keep _) (Ext.refl _ _) (Nat.le_refl _))
  | label l =>
    intro hs ec hs' hc fr h ex fr' h' he ρ a w R hF Q hQ
    simp only [compC, Option.some.injEq, Prod.mk.injEq] at hc
    obtain ⟨rfl, rfl⟩ := hc
    simp only [codeE, Option.some.injEq, Prod.mk.injEq] at he
    obtain ⟨rfl, rfl, rfl⟩ := he
    exact wp_label (hQ ρ a w R hF (Ext.refl _ _) (Nat.le_refl _))
  | goto l =>
    intro hs ec hs' hc fr h ex fr' h' he ρ a w R hF Q hQ
    simp only [compC, Option.some.injEq, Prod.mk.injEq] at hc
    obtain ⟨rfl, rfl⟩ := hc
    simp only [codeE, Option.some.injEq, Prod.mk.injEq] at he
    obtain ⟨rfl, rfl, rfl⟩ := he
    exact wp_goto (hQ ρ a w R (hF.keep _) (Ext.refl _ _) (Nat.le_refl _))
  | scope b ih =>
    intro hs ec hs' hc fr h ex fr' h' he ρ a w R hF Q hQ
    simp only [compC] at hc
    obtain ⟨⟨b', hs1⟩, hb, hq⟩ := Option.map_eq_some_iff.1 hc
    obtain ⟨rfl, rfl⟩ := Prod.mk.inj hq
    simp only [codeE] at he
    cases he
  | _ =>
    intro hs ec hs' hc
    simp only [compC] at hc
    cases hc

theorem init_get : ∀ (args : List FV) (k : Nat) (t : Nat) (v : FV), fget (initE k args) t = some v → k ≤ t ∧ args[t - k]? = some v
  | [], k, t, v, h => by cases h
  | u :: r, k, t, v, h => by
    simp only [initE, fget] at h
    by_cases e : t = k
    · rw [if_pos e] at h
      subst e
      obtain rfl := Option.some.inj h
      exact ⟨Nat.le_refl _, by simp⟩
    · rw [if_neg e] at h
      obtain ⟨q1, q2⟩ := init_get r (k + 1) t v h
      exact ⟨by omega, by rw [show t - k = (t - (k + 1)) + 1 by omega, List.getElem?_cons_succ]; exact q2⟩

theorem res_ok {ρ : Nat → Ph} {n : Nat} {fr : Fr} {a : Act} (hF : FrR ρ n N fr a) {w : World} : ∀ (rs : List ResultVar) (es : List ER) (h : LH) (l : List FV), compRs rs = some es → ressE fr h es = some l →
    (rs.mapM (m := Sem) fun r => match r with
      | .tmp t => pure (a.tmps.getD t undef)
      | .cell c t => do loadVar t (← asAddr (a.tmps.getD c undef))).run P w = .ok (l.map (cv ρ)) w ∧ ∀ v ∈ l, wfV ρ n v
  | [], es, h, l, hc, he => by
    simp only [compRs, Option.some.injEq] at hc
    subst hc
    simp only [ressE, Option.some.injEq] at he
    subst he
    exact ⟨rfl, by simp⟩
  | r :: rs, es, h, l, hc, he => by
    simp only [compRs] at hc
    split at hc
    · rename_i x hx
      obtain ⟨es', hes, rfl⟩ := Option.map_eq_some_iff.1 hc
      cases r with
      | cell c t => cases hx
      | tmp t =>
        simp only [compR, Option.some.injEq] at hx
        subst hx
        simp only [ressE, resE] at he
        split at he
        · rename_i v hv
          obtain ⟨l', hl, rfl⟩ := Option.map_eq_some_iff.1 he
          obtain ⟨q1, q2, q3⟩ := hF.get t v hv
          obtain ⟨r1, r2⟩ := res_ok hF (w := w) rs es' h l' hes hl
          refine ⟨?_, fun u hu => ?_⟩
          · simp only [List.mapM_cons, Sem.run_bind, Sem.run_pure, Result.andThen_ok, q2, List.map_cons]
            rw [r1]; rfl
          · rcases List.mem_cons.1 hu with rfl | hu
            · exact q3
            · exact r2 u hu
        · cases he
    · cases hc

theorem results_ok {ρ : Nat → Ph} {n : Nat} {fr : Fr} {a : Act} (hF : FrR ρ n N fr a) {w : World} {fn : Func} {es : List ER} {h h' : LH} {v : FV} (hc : compRs fn.results.toList = some es) (he : packL (ressE fr h es) h = some (v, h')) :
    (results fn a.tmps).run P w = .ok (cv ρ v) w ∧ wfV ρ n v ∧ h' = h := by
  unfold packL at he
  split at he
  · rename_i l hl
    split at he
    · rename_i hfl
      simp only [Option.some.injEq, Prod.mk.injEq] at he
      obtain ⟨rfl, rfl⟩ := he
      obtain ⟨q1, q2⟩ := res_ok (P := P) (w := w) hF fn.results.toList es h l hc hl
      obtain ⟨r1, r2⟩ := flat1_wf hfl q2
      refine ⟨?_, ?_, rfl⟩
      · unfold results
        rw [Sem.run_bind, Array.mapM_eq_mapM_toList]
        rw [map_eq_pure_bind, Sem.run_bind]
        have q1' := q1
        first
          | rw [q1']
          | (have e : ∀ (r : ResultVar), (match r with
              | .tmp t => (pure (a.tmps.getD t undef) : Sem Value)
              | .cell c t => do loadVar t (← asAddr (a.tmps.getD c undef))) = (match r with
              | .tmp t => (pure (a.tmps.getD t undef) : Sem Value)
              | .cell c t => do loadVar t (← asAddr (a.tmps.getD c undef))) := fun _ => rfl
             erw [q1'])
        simp only [Result.andThen_ok, Sem.run_pure]
        cases l with
        | nil => rfl
        | cons x r =>
          cases r with
          | nil => rfl
          | cons y r =>
            simp only [packE, cv]
            rw [← r2]
            simp
      · cases l with
        | nil => exact fun v hv => by cases hv
        | cons x r =>
          cases r with
          | nil => exact q2 x List.mem_cons_self
          | cons y r => exact fun v hv => r1 v hv
    · cases he
  · cases he

theorem call_ok (hm : P.follows .mixedOrders = true) {C : Nat → Option EF} (hC : ∀ f e, C f = some e → ∃ hs, compF P f hs = some e) : ∀ (n : Nat) (w0 : Base), CallOK P w0 (callE C n)
  | 0, w0 => fun f args h v h' ρ w he => by cases he
  | n + 1, w0 => fun f args h v h' ρ w he R hwf => by
    simp only [callE] at he
    split at he
    · cases he
    · rename_i e hf
      obtain ⟨hs, hcF⟩ := hC f e hf
      unfold compF at hcF
      split at hcF
      · rename_i fn hfn
        split at hcF
        · rename_i c hb
          split at hcF
          · rename_i hname
            split at hcF
            · rename_i x r hx hr
              obtain rfl := Option.some.inj hcF
              split at he
              · rename_i hle
                refine ⟨⟨fn, hfn, by simpa using hname, by rw [hb]; rfl⟩, ?_⟩
                refine calls_of_wp hfn hb ?_
                have hF0 : FrR ρ h.length fn.ntmps (initE 0 args) { tmps := (args.map (cv ρ)).toArray ++ Array.replicate (fn.ntmps - (args.map (cv ρ)).toArray.size) undef, defers := [] } := by
                  refine ⟨?_, rfl, fun t u hu => ?_⟩
                  · simp only [Array.size_append, Array.size_replicate, List.size_toArray, List.length_map]
                    simp only at hle; omega
                  · obtain ⟨q1, q2⟩ := init_get args 0 t u hu
                    rw [Nat.sub_zero] at q2
                    have hlt := (List.getElem?_eq_some_iff.1 q2).1
                    simp only at hle
                    refine ⟨by omega, ?_, hwf u (List.mem_of_getElem? q2)⟩
                    rw [Array.getD_eq_getD_getElem?, Array.getElem?_append_left (by simpa using hlt)]
                    simp [q2]
                split at he
                · rename_i fr1 h1 he1
                  refine code_ok hm (call_ok hm hC n) (callE_grow C n) n c hs x.1 x.2 hx _ h _ fr1 h1 he1 ρ _ w R hF0 _ (fun ρ1 a1 w1 q1 q2 q3 q4 => ?_)
                  obtain ⟨r1, r2, rfl⟩ := results_ok (P := P) (w := w1) q2 hr he
                  exact ⟨q2.defers, _, r1, ρ1, rfl, q1, q3, q4, r2⟩
                · rename_i fr1 h1 he1
                  refine code_ok hm (call_ok hm hC n) (callE_grow C n) n c hs x.1 x.2 hx _ h _ fr1 h1 he1 ρ _ w R hF0 _ (fun ρ1 a1 w1 q1 q2 q3 q4 => ?_)
                  obtain ⟨r1, r2, rfl⟩ := results_ok (P := P) (w := w1) q2 hr he
                  exact ⟨q2.defers, _, r1, ρ1, rfl, q1, q3, q4, r2⟩
                · cases he
              · cases he
            · cases hcF
          · cases hcF
        · cases hcF
      · cases hcF

end
end Go.Proofs.Ytbpagnnfieipcaa.Ev
