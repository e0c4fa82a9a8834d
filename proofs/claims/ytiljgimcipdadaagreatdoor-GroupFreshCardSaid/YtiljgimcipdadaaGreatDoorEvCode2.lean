/- Code and calls: the small machine tells the truth of the model. -/
import Derived.Test.YtiljgimcipdadaaGreatDoorEvDraw
import Derived.Scope
set_option linter.unusedVariables false
set_option linter.unusedSimpArgs false
namespace Go.Proofs.YtiljgimcipdadaaGreatDoor.Ev
open Go Go.RowKit

variable {P : Program} {w0 : Base}

def exOf : Ex → Exit
  | .normal => .normal
  | .exit id => .exit id
  | .goto l => .goto l
  | .ret => .ret

section
variable {N : Nat}

theorem hasL_ok : ∀ (c : Code) (hs : List (List Nat)) (ec : EC) (hs' : List (List Nat)), compC P N c hs = some (ec, hs') → ∀ l, hasL ec l = (findLabel c l).isSome := by
  intro c
  induction c with
  | seq x y ihx ihy =>
    intro hs ec hs' hc l
    simp only [compC] at hc
    split at hc
    · rename_i x' hs1 hx
      obtain ⟨⟨y', hs2⟩, hy, hq⟩ := Option.map_eq_some_iff.1 hc
      obtain ⟨rfl, rfl⟩ := Prod.mk.inj hq
      simp only [hasL, findLabel, ihx _ _ _ hx l, ihy _ _ _ hy l]
      cases findLabel x l <;> simp
    · cases hc
  | label l' =>
    intro hs ec hs' hc l
    simp only [compC, Option.some.injEq, Prod.mk.injEq] at hc
    obtain ⟨rfl, rfl⟩ := hc
    simp only [hasL, findLabel]
    cases l' == l <;> rfl
  | region id ops dr =>
    intro hs ec hs' hc l
    cases dr with
    | false =>
      simp only [compC] at hc
      obtain ⟨l', hl, hq⟩ := Option.map_eq_some_iff.1 hc
      obtain ⟨rfl, rfl⟩ := Prod.mk.inj hq
      rfl
    | true =>
      simp only [compC] at hc
      split at hc
      · split at hc
        · obtain ⟨rfl, rfl⟩ := Prod.mk.inj (Option.some.inj hc); rfl
        · cases hc
      · cases hc
  | cond c x y ihx ihy =>
    intro hs ec hs' hc l
    simp only [compC] at hc
    split at hc
    · obtain ⟨⟨y', hs2⟩, hy, hq⟩ := Option.map_eq_some_iff.1 hc
      obtain ⟨rfl, rfl⟩ := Prod.mk.inj hq
      rfl
    · cases hc
  | block id b ih =>
    intro hs ec hs' hc l
    simp only [compC] at hc
    obtain ⟨⟨b', hs1⟩, hb, hq⟩ := Option.map_eq_some_iff.1 hc
    obtain ⟨rfl, rfl⟩ := Prod.mk.inj hq
    rfl
  | loop b ih =>
    intro hs ec hs' hc l
    simp only [compC] at hc
    obtain ⟨⟨b', hs1⟩, hb, hq⟩ := Option.map_eq_some_iff.1 hc
    obtain ⟨rfl, rfl⟩ := Prod.mk.inj hq
    rfl
  | scope b ih =>
    intro hs ec hs' hc l
    simp only [compC] at hc
    obtain ⟨⟨b', hs1⟩, hb, hq⟩ := Option.map_eq_some_iff.1 hc
    obtain ⟨rfl, rfl⟩ := Prod.mk.inj hq
    rfl
  | exit id =>
    intro hs ec hs' hc l
    simp only [compC, Option.some.injEq, Prod.mk.injEq] at hc
    obtain ⟨rfl, rfl⟩ := hc
    rfl
  | goto id =>
    intro hs ec hs' hc l
    simp only [compC, Option.some.injEq, Prod.mk.injEq] at hc
    obtain ⟨rfl, rfl⟩ := hc
    rfl
  | ret =>
    intro hs ec hs' hc l
    simp only [compC, Option.some.injEq, Prod.mk.injEq] at hc
    obtain ⟨rfl, rfl⟩ := hc
    rfl
  | skip =>
    intro hs ec hs' hc l
    simp only [compC, Option.some.injEq, Prod.mk.injEq] at hc
    obtain ⟨rfl, rfl⟩ := hc
    rfl
  | _ =>
    intro hs ec hs' hc
    simp only [compC] at hc
    cases hc

theorem code_ok' {G : Base → Prop} (hG : Stays P G) (hg : G w0) (hm : P.follows .mixedOrders = true) {call : CallE} (hcall : ∀ w0, G w0 → CallOK P w0 call) (hgrow : Grows call) (n : Nat) : ∀ (c : Code) (hs : List (List Nat)) (ec : EC) (hs' : List (List Nat)), compC P N c hs = some (ec, hs') →
    (∀ (fr : Fr) (h : LH) (ex : Ex) (fr' : Fr) (h' : LH), codeE call n ec fr h = some (ex, fr', h') → ∀ (ρ : Nat → Ph) (a : Act) (w : World), Rel P w0 ρ h w → FrR ρ h.length N fr a →
    ∀ (Q : Exit → Act → World → Prop), (∀ ρ' a' w', Rel P w0 ρ' h' w' → FrR ρ' h'.length N fr' a' → Ext h.length ρ ρ' → h.length ≤ h'.length → Q (exOf ex) a' w') → c.wp P Q a w) ∧
    ∀ (l : Nat) (rest : Code), findLabel c l = some rest → ∀ (fr : Fr) (h : LH) (ex : Ex) (fr' : Fr) (h' : LH), codeAt call n ec l fr h = some (ex, fr', h') → ∀ (ρ : Nat → Ph) (a : Act) (w : World), Rel P w0 ρ h w → FrR ρ h.length N fr a →
    ∀ (Q : Exit → Act → World → Prop), (∀ ρ' a' w', Rel P w0 ρ' h' w' → FrR ρ' h'.length N fr' a' → Ext h.length ρ ρ' → h.length ≤ h'.length → Q (exOf ex) a' w') → rest.wp P Q a w := by
  intro c
  induction c with
  | skip =>
    intro hs ec hs' hc
    refine ⟨?_, fun l rest hf => by simp only [findLabel] at hf; cases hf⟩
    intro fr h ex fr' h' he ρ a w R hF Q hQ
    simp only [compC, Option.some.injEq, Prod.mk.injEq] at hc
    obtain ⟨rfl, rfl⟩ := hc
    simp only [codeE, Option.some.injEq, Prod.mk.injEq] at he
    obtain ⟨rfl, rfl, rfl⟩ := he
    exact wp_skip (hQ ρ a w R hF (Ext.refl _ _) (Nat.le_refl _))
  | region id ops dr =>
    intro hs ec hs' hc
    refine ⟨?_, fun l rest hf => by simp only [findLabel] at hf; cases hf⟩
    intro fr h ex fr' h' he ρ a w R hF Q hQ
    cases dr with
    | false =>
      simp only [compC] at hc
      obtain ⟨l, hl, hq⟩ := Option.map_eq_some_iff.1 hc
      obtain ⟨rfl, rfl⟩ := Prod.mk.inj hq
      simp only [codeE] at he
      obtain ⟨⟨fr1, h1⟩, h2, hq⟩ := Option.map_eq_some_iff.1 he
      simp only [Prod.mk.injEq] at hq
      obtain ⟨rfl, rfl, rfl⟩ := hq
      exact wp_region_list (ops_ok (hcall w0 hg) ops.toList l fr h _ _ ρ a w hl h2 R hF fun ρ' a' w' q1 q2 => hQ ρ' a' w' q1 (q2.keep _))
    | true =>
      simp only [compC] at hc
      split at hc
      · rename_i l hl
        split at hc
        · rename_i hd
          obtain ⟨rfl, rfl⟩ := Prod.mk.inj (Option.some.inj hc)
          simp only [codeE] at he
          obtain ⟨⟨fr1, h1⟩, h2, hq⟩ := Option.map_eq_some_iff.1 he
          simp only [Prod.mk.injEq] at hq
          obtain ⟨rfl, rfl, rfl⟩ := hq
          exact draw_ok hG hg hm hcall hgrow hl hd h2 R hF fun ρ' a' w' q1 q2 => hQ ρ' a' w' q1 (q2.keep _)
        · cases hc
      · cases hc
  | seq x y ihx ihy =>
    intro hs ec hs' hc
    simp only [compC] at hc
    split at hc
    · rename_i x' hs1 hx
      obtain ⟨⟨y', hs2⟩, hy, hq⟩ := Option.map_eq_some_iff.1 hc
      obtain ⟨rfl, rfl⟩ := Prod.mk.inj hq
      refine ⟨fun fr h ex fr' h' he ρ a w R hF Q hQ => ?_, fun l rest hf fr h ex fr' h' he ρ a w R hF Q hQ => ?_⟩
      · simp only [codeE] at he
        refine wp_seq ?_
        split at he
        · rename_i fr1 h1 he1
          refine (ihx _ _ _ hx).1 fr h _ fr1 h1 he1 ρ a w R hF _ (fun ρ1 a1 w1 q1 q2 q3 q4 => ?_)
          exact (ihy _ _ _ hy).1 fr1 h1 ex fr' h' he ρ1 a1 w1 q1 q2 Q (fun ρ2 a2 w2 r1 r2 r3 r4 => hQ ρ2 a2 w2 r1 r2 (q3.trans q4 r3) (by omega))
        · rename_i hne
          refine (ihx _ _ _ hx).1 fr h ex fr' h' he ρ a w R hF _ (fun ρ1 a1 w1 q1 q2 q3 q4 => ?_)
          have := hQ ρ1 a1 w1 q1 q2 q3 q4
          cases ex with
          | normal => exact absurd he (hne _ _)
          | exit id => exact this
          | goto l => exact this
          | ret => exact this
      · simp only [codeAt] at he
        simp only [findLabel] at hf
        rw [hasL_ok _ _ _ _ hx l] at he
        cases hfx : findLabel x l with
        | some r1 =>
          rw [hfx] at hf he
          obtain rfl := Option.some.inj hf
          simp only [Option.isSome_some, if_true] at he
          refine wp_seq ?_
          split at he
          · rename_i fr1 h1 he1
            refine (ihx _ _ _ hx).2 l _ hfx fr h _ fr1 h1 he1 ρ a w R hF _ (fun ρ1 a1 w1 q1 q2 q3 q4 => ?_)
            exact (ihy _ _ _ hy).1 fr1 h1 ex fr' h' he ρ1 a1 w1 q1 q2 Q (fun ρ2 a2 w2 r1 r2 r3 r4 => hQ ρ2 a2 w2 r1 r2 (q3.trans q4 r3) (by omega))
          · rename_i hne
            refine (ihx _ _ _ hx).2 l _ hfx fr h ex fr' h' he ρ a w R hF _ (fun ρ1 a1 w1 q1 q2 q3 q4 => ?_)
            have := hQ ρ1 a1 w1 q1 q2 q3 q4
            cases ex with
            | normal => exact absurd he (hne _ _)
            | exit id => exact this
            | goto l => exact this
            | ret => exact this
        | none =>
          rw [hfx] at hf he
          simp only [Option.isSome_none, Bool.false_eq_true, if_false] at he
          exact (ihy _ _ _ hy).2 l rest hf fr h ex fr' h' he ρ a w R hF Q hQ
    · cases hc
  | cond c x y ihx ihy =>
    intro hs ec hs' hc
    refine ⟨?_, fun l rest hf => by simp only [findLabel] at hf; cases hf⟩
    intro fr h ex fr' h' he ρ a w R hF Q hQ
    simp only [compC] at hc
    split at hc
    · rename_i c' x' hs1 hcc hx
      obtain ⟨⟨y', hs2⟩, hy, hq⟩ := Option.map_eq_some_iff.1 hc
      obtain ⟨rfl, rfl⟩ := Prod.mk.inj hq
      simp only [codeE] at he
      split at he
      · rename_i t ht
        obtain ⟨e1, _⟩ := ods_sound hF hcc ht
        refine wp_cond (t := t) (by rw [e1]; rfl) ?_
        cases t with
        | true => exact (ihx _ _ _ hx).1 fr h ex fr' h' he ρ a w R hF Q hQ
        | false => exact (ihy _ _ _ hy).1 fr h ex fr' h' he ρ a w R hF Q hQ
      · cases he
    · cases hc
  | block id b ih =>
    intro hs ec hs' hc
    refine ⟨?_, fun l rest hf => by simp only [findLabel] at hf; cases hf⟩
    intro fr h ex fr' h' he ρ a w R hF Q hQ
    simp only [compC] at hc
    obtain ⟨⟨b', hs1⟩, hb, hq⟩ := Option.map_eq_some_iff.1 hc
    obtain ⟨rfl, rfl⟩ := Prod.mk.inj hq
    simp only [codeE] at he
    refine wp_block ?_
    split at he
    · rename_i id' fr1 h1 he1
      refine (ih _ _ _ hb).1 fr h _ fr1 h1 he1 ρ a w R hF _ (fun ρ1 a1 w1 q1 q2 q3 q4 => ?_)
      simp only [exOf, Exit.inBlock]
      split at he
      · rename_i hid
        simp only [Option.some.injEq, Prod.mk.injEq] at he
        obtain ⟨rfl, rfl, rfl⟩ := he
        rw [if_pos hid]; exact hQ ρ1 a1 w1 q1 q2 q3 q4
      · rename_i hid
        simp only [Option.some.injEq, Prod.mk.injEq] at he
        obtain ⟨rfl, rfl, rfl⟩ := he
        rw [if_neg hid]; exact hQ ρ1 a1 w1 q1 q2 q3 q4
    · rename_i hne
      refine (ih _ _ _ hb).1 fr h ex fr' h' he ρ a w R hF _ (fun ρ1 a1 w1 q1 q2 q3 q4 => ?_)
      have := hQ ρ1 a1 w1 q1 q2 q3 q4
      cases ex with
      | normal => exact this
      | exit id => exact absurd he (hne _ _ _)
      | goto l => exact this
      | ret => exact this
  | loop b ih =>
    intro hs ec hs' hc
    refine ⟨?_, fun l rest hf => by simp only [findLabel] at hf; cases hf⟩
    intro fr h ex fr' h' he ρ a w R hF Q hQ
    simp only [compC] at hc
    obtain ⟨⟨b', hs1⟩, hb, hq⟩ := Option.map_eq_some_iff.1 hc
    obtain ⟨rfl, rfl⟩ := Prod.mk.inj hq
    simp only [codeE] at he
    refine wp_loop_rounds n ?_
    have key : ∀ (m : Nat) (fr : Fr) (h : LH) (ρ : Nat → Ph) (a : Act) (w : World), loopN (codeE call n b') (takeHint hs).1 m fr h = some (ex, fr', h') → Rel P w0 ρ h w → FrR ρ h.length N fr a →
        (∀ ρ' a' w', Rel P w0 ρ' h' w' → FrR ρ' h'.length N fr' a' → Ext h.length ρ ρ' → h.length ≤ h'.length → Q (exOf ex) a' w') → Code.rounds P b Q m a w := by
      intro m
      induction m with
      | zero => intro fr h ρ a w he; cases he
      | succ m ihm =>
        intro fr h ρ a w he R hF hQ
        simp only [loopN] at he
        rw [rounds_succ]
        split at he
        · rename_i fr1 h1 he1
          refine (ih _ _ _ hb).1 _ h _ fr1 h1 he1 ρ a w R (hF.keep _) _ (fun ρ1 a1 w1 q1 q2 q3 q4 => ?_)
          exact ihm fr1 h1 ρ1 a1 w1 he q1 q2 (fun ρ2 a2 w2 r1 r2 r3 r4 => hQ ρ2 a2 w2 r1 r2 (q3.trans q4 r3) (by omega))
        · rename_i hne
          refine (ih _ _ _ hb).1 _ h ex fr' h' he ρ a w R (hF.keep _) _ (fun ρ1 a1 w1 q1 q2 q3 q4 => ?_)
          have := hQ ρ1 a1 w1 q1 q2 q3 q4
          cases ex with
          | normal => exact absurd he (hne _ _)
          | exit id => exact this
          | goto l => exact this
          | ret => exact this
    exact key n fr h ρ a w he R hF hQ
  | exit id =>
    intro hs ec hs' hc
    refine ⟨?_, fun l rest hf => by simp only [findLabel] at hf; cases hf⟩
    intro fr h ex fr' h' he ρ a w R hF Q hQ
    simp only [compC, Option.some.injEq, Prod.mk.injEq] at hc
    obtain ⟨rfl, rfl⟩ := hc
    simp only [codeE, Option.some.injEq, Prod.mk.injEq] at he
    obtain ⟨rfl, rfl, rfl⟩ := he
    exact wp_exit (hQ ρ a w R (hF.keep _) (Ext.refl _ _) (Nat.le_refl _))
  | ret =>
    intro hs ec hs' hc
    refine ⟨?_, fun l rest hf => by simp only [findLabel] at hf; cases hf⟩
    intro fr h ex fr' h' he ρ a w R hF Q hQ
    simp only [compC, Option.some.injEq, Prod.mk.injEq] at hc
    obtain ⟨rfl, rfl⟩ := hc
    simp only [codeE, Option.some.injEq, Prod.mk.injEq] at he
    obtain ⟨rfl, rfl, rfl⟩ := he
    exact wp_ret (hQ ρ a w R (hF.keep _) (Ext.refl _ _) (Nat.le_refl _))
  | label l' =>
    intro hs ec hs' hc
    simp only [compC, Option.some.injEq, Prod.mk.injEq] at hc
    obtain ⟨rfl, rfl⟩ := hc
    refine ⟨fun fr h ex fr' h' he ρ a w R hF Q hQ => ?_, fun l rest hf fr h ex fr' h' he ρ a w R hF Q hQ => ?_⟩
    · simp only [codeE, Option.some.injEq, Prod.mk.injEq] at he
      obtain ⟨rfl, rfl, rfl⟩ := he
      exact wp_label (hQ ρ a w R hF (Ext.refl _ _) (Nat.le_refl _))
    · simp only [codeAt] at he
      simp only [findLabel] at hf
      split at he
      · rename_i hl
        rw [if_pos hl] at hf
        obtain rfl := Option.some.inj hf
        simp only [Option.some.injEq, Prod.mk.injEq] at he
        obtain ⟨rfl, rfl, rfl⟩ := he
        exact wp_skip (hQ ρ a w R hF (Ext.refl _ _) (Nat.le_refl _))
      · cases he
  | goto l =>
    intro hs ec hs' hc
    refine ⟨?_, fun l rest hf => by simp only [findLabel] at hf; cases hf⟩
    intro fr h ex fr' h' he ρ a w R hF Q hQ
    simp only [compC, Option.some.injEq, Prod.mk.injEq] at hc
    obtain ⟨rfl, rfl⟩ := hc
    simp only [codeE, Option.some.injEq, Prod.mk.injEq] at he
    obtain ⟨rfl, rfl, rfl⟩ := he
    exact wp_goto (hQ ρ a w R (hF.keep _) (Ext.refl _ _) (Nat.le_refl _))
  | scope c ih =>
    intro hs ec hs' hc
    refine ⟨?_, fun l rest hf => by simp only [findLabel] at hf; cases hf⟩
    simp only [compC] at hc
    obtain ⟨⟨c', hs1⟩, hb, hq⟩ := Option.map_eq_some_iff.1 hc
    obtain ⟨rfl, rfl⟩ := Prod.mk.inj hq
    intro fr h ex fr' h' he ρ a w R hF Q hQ b k cs
    simp only [codeE] at he
    obtain ⟨ih1, ih2⟩ := ih _ _ _ hb
    have key : ∀ (m : Nat) (m0 : Machine) (ex0 : Ex) (fr0 : Fr) (h0 : LH) (ρ0 : Nat → Ph) (a0 : Act) (w0' : World), scopeN (codeAt call n c') (hasL c') m (some (ex0, fr0, h0)) = some (ex, fr', h') → Rel P w0 ρ0 h0 w0' → FrR ρ0 h0.length N fr0 a0 → Ext h.length ρ ρ0 → h.length ≤ h0.length →
        Arrives P m0 b (.inScope c :: k) cs (exOf ex0) a0 w0' → ∃ e a' w', Q e a' w' ∧ Arrives P m0 b k cs e a' w' := by
      intro m
      induction m with
      | zero =>
        intro m0 ex0 fr0 h0 ρ0 a0 w0' he R0 F0 E0 L0 ha
        unfold scopeN at he
        split at he
        · rename_i l fr1 h1 e
          simp only [Option.some.injEq, Prod.mk.injEq] at e
          obtain ⟨rfl, rfl, rfl⟩ := e
          split at he
          · cases he
          · rename_i hl
            simp only [Option.some.injEq, Prod.mk.injEq] at he
            obtain ⟨rfl, rfl, rfl⟩ := he
            rw [hasL_ok _ _ _ _ hb l] at hl
            have hn : findLabel c l = none := by
              cases hfl : findLabel c l with
              | none => rfl
              | some r => rw [hfl] at hl; exact absurd rfl hl
            exact ⟨_, _, _, hQ _ _ _ R0 F0 E0 L0, fun k' hk => ha k' (by simp only [gotoIn, hn]; exact hk)⟩
        · rename_i hne
          simp only [Option.some.injEq, Prod.mk.injEq] at he
          obtain ⟨rfl, rfl, rfl⟩ := he
          refine ⟨_, _, _, hQ _ _ _ R0 F0 E0 L0, ?_⟩
          cases ex0 with
          | normal => exact Steps.trans ha (.one step_inScope)
          | exit id => exact fun k' hk => ha k' (by simp [exitTo, hk])
          | goto l => exact absurd rfl (hne l _ _)
          | ret => exact ha
      | succ m ihm =>
        intro m0 ex0 fr0 h0 ρ0 a0 w0' he R0 F0 E0 L0 ha
        unfold scopeN at he
        split at he
        · rename_i l fr1 h1 e
          simp only [Option.some.injEq, Prod.mk.injEq] at e
          obtain ⟨rfl, rfl, rfl⟩ := e
          split at he
          · rename_i hl
            rw [hasL_ok _ _ _ _ hb l] at hl
            obtain ⟨rest, hr⟩ := Option.isSome_iff_exists.1 hl
            cases hat : codeAt call n c' l fr0 h0 with
            | none => rw [hat] at he; unfold scopeN at he; cases he
            | some r =>
              obtain ⟨ex1, fr1, h1⟩ := r
              rw [hat] at he
              have hst := ha (.code rest :: .inScope c :: k) (by simp [gotoIn, hr])
              obtain ⟨e1, a1, w1, ⟨ρ1, rfl, R1, F1, E1, L1⟩, har⟩ := ih2 l rest hr fr0 h0 ex1 fr1 h1 hat ρ0 a0 w0' R0 F0 (fun e a' w' => ∃ ρ1, e = exOf ex1 ∧ Rel P w0 ρ1 h1 w' ∧ FrR ρ1 h1.length N fr1 a' ∧ Ext h0.length ρ0 ρ1 ∧ h0.length ≤ h1.length) (fun ρ1 a1 w1 q1 q2 q3 q4 => ⟨ρ1, rfl, q1, q2, q3, q4⟩) b (.inScope c :: k) cs
              obtain ⟨e2, a2, w2, hq2, har2⟩ := ihm _ _ _ _ _ _ _ he R1 F1 (E0.trans L0 E1) (Nat.le_trans L0 L1) har
              exact ⟨e2, a2, w2, hq2, .of_steps hst har2⟩
          · rename_i hl
            simp only [Option.some.injEq, Prod.mk.injEq] at he
            obtain ⟨rfl, rfl, rfl⟩ := he
            rw [hasL_ok _ _ _ _ hb l] at hl
            have hn : findLabel c l = none := by
              cases hfl : findLabel c l with
              | none => rfl
              | some r => rw [hfl] at hl; exact absurd rfl hl
            exact ⟨_, _, _, hQ _ _ _ R0 F0 E0 L0, fun k' hk => ha k' (by simp only [gotoIn, hn]; exact hk)⟩
        · rename_i hne
          simp only [Option.some.injEq, Prod.mk.injEq] at he
          obtain ⟨rfl, rfl, rfl⟩ := he
          refine ⟨_, _, _, hQ _ _ _ R0 F0 E0 L0, ?_⟩
          cases ex0 with
          | normal => exact Steps.trans ha (.one step_inScope)
          | exit id => exact fun k' hk => ha k' (by simp [exitTo, hk])
          | goto l => exact absurd rfl (hne l _ _)
          | ret => exact ha
    cases hr : codeE call n c' fr h with
    | none => rw [hr] at he; unfold scopeN at he; cases he
    | some r =>
      obtain ⟨ex1, fr1, h1⟩ := r
      rw [hr] at he
      obtain ⟨e1, a1, w1, ⟨ρ1, rfl, R1, F1, E1, L1⟩, har⟩ := ih1 fr h ex1 fr1 h1 hr ρ a w R hF (fun e a' w' => ∃ ρ1, e = exOf ex1 ∧ Rel P w0 ρ1 h1 w' ∧ FrR ρ1 h1.length N fr1 a' ∧ Ext h.length ρ ρ1 ∧ h.length ≤ h1.length) (fun ρ1 a1 w1 q1 q2 q3 q4 => ⟨ρ1, rfl, q1, q2, q3, q4⟩) b (.inScope c :: k) cs
      obtain ⟨e2, a2, w2, hq2, har2⟩ := key n _ _ _ _ _ _ _ he R1 F1 E1 L1 har
      exact ⟨e2, a2, w2, hq2, .of_steps (.one step_scope) har2⟩
  | _ =>
    intro hs ec hs' hc
    simp only [compC] at hc
    cases hc

theorem code_ok {G : Base → Prop} (hG : Stays P G) (hg : G w0) (hm : P.follows .mixedOrders = true) {call : CallE} (hcall : ∀ w0, G w0 → CallOK P w0 call) (hgrow : Grows call) (n : Nat) (c : Code) (hs : List (List Nat)) (ec : EC) (hs' : List (List Nat)) (hc : compC P N c hs = some (ec, hs'))
    (fr : Fr) (h : LH) (ex : Ex) (fr' : Fr) (h' : LH) (he : codeE call n ec fr h = some (ex, fr', h')) (ρ : Nat → Ph) (a : Act) (w : World) (R : Rel P w0 ρ h w) (hF : FrR ρ h.length N fr a)
    (Q : Exit → Act → World → Prop) (hQ : ∀ ρ' a' w', Rel P w0 ρ' h' w' → FrR ρ' h'.length N fr' a' → Ext h.length ρ ρ' → h.length ≤ h'.length → Q (exOf ex) a' w') : c.wp P Q a w :=
  (code_ok' hG hg hm hcall hgrow n c hs ec hs' hc).1 fr h ex fr' h' he ρ a w R hF Q hQ

theorem init_get : ∀ (args : List FV) (k : Nat) (t : Nat) (v : FV), fget (initE k args) t = some v → k ≤ t ∧ args[t - k]? = some v
  | [], k, t, v, h => by cases h
  | u :: r, k, t, v, h => by
    simp only [initE, fget] at h
    by_cases e : t = k
    · rw [if_pos e] at h
      subst e
      obtain rfl := Option.some.inj h
      exact ⟨Nat.le_refl _, by simp⟩
    · rw [if_neg e] at h
      obtain ⟨q1, q2⟩ := init_get r (k + 1) t v h
      exact ⟨by omega, by rw [show t - k = (t - (k + 1)) + 1 by omega, List.getElem?_cons_succ]; exact q2⟩

theorem res_ok {ρ : Nat → Ph} {h : LH} {fr : Fr} {a : Act} {w : World} (R : Rel P w0 ρ h w) (hF : FrR ρ h.length N fr a) : ∀ (rs : List ResultVar) (es : List ER) (l : List FV), compRs P rs = some es → ressE fr h es = some l →
    (rs.mapM (m := Sem) fun r => match r with
      | .tmp t => pure (a.tmps.getD t undef)
      | .cell c t => do loadVar t (← asAddr (a.tmps.getD c undef))).run P w = .ok (l.map (cv ρ)) w ∧ ∀ v ∈ l, wfV ρ h.length v
  | [], es, l, hc, he => by
    simp only [compRs, Option.some.injEq] at hc
    subst hc
    simp only [ressE, Option.some.injEq] at he
    subst he
    exact ⟨rfl, by simp⟩
  | r :: rs, es, l, hc, he => by
    simp only [compRs] at hc
    split at hc
    · rename_i x hx
      obtain ⟨es', hes, rfl⟩ := Option.map_eq_some_iff.1 hc
      cases r with
      | cell c t =>
        obtain ⟨⟨g, m⟩, ht, rfl⟩ := Option.map_eq_some_iff.1 hx
        simp only [ressE, resE] at he
        split at he
        · rename_i v hv
          obtain ⟨l', hl, rfl⟩ := Option.map_eq_some_iff.1 he
          obtain ⟨⟨v', h1⟩, hop, rfl⟩ := Option.map_eq_some_iff.1 hv
          obtain ⟨r1, r2⟩ := res_ok R hF rs es' l' hes hl
          obtain ⟨ptr, hptr⟩ : ∃ i o, odS fr (.t c) = some (.ptr i o) := by
            simp only [opE] at hop
            split at hop
            · rename_i i o h0; exact ⟨i, o, h0⟩
            · cases hop
          obtain ⟨o, hptr⟩ := hptr
          have hget : fget fr c = some (.s (.ptr ptr o)) := odS_some hptr
          obtain ⟨q1, q2, q3⟩ := hF.get c _ hget
          obtain ⟨k1, k2, k3⟩ := load_run R hF (x := .tmp c) (y := .t c) ht rfl hop
          have e1 : a.eval (.tmp c) = .pointer (some ⟨(ρ ptr).blk, (ρ ptr).base + o, none⟩) := (ods_sound hF (x := .tmp c) (y := .t c) rfl hptr).1
          have e2 : a.tmps.getD c undef = .pointer (some ⟨(ρ ptr).blk, (ρ ptr).base + o, none⟩) := q2
          rw [e1] at k1
          simp only [Instr.loadAt, Instr.sureAddr, Sem.run_bind, Sem.run_pure, Result.andThen_ok] at k1
          refine ⟨?_, fun u hu => ?_⟩
          · have e3 : asAddr (.pointer (some ⟨(ρ ptr).blk, (ρ ptr).base + o, none⟩)) = pure ⟨(ρ ptr).blk, (ρ ptr).base + o, none⟩ := rfl
            simp only [List.mapM_cons, Sem.run_bind, Result.andThen_ok, e2, e3, Sem.run_pure, k1, List.map_cons]
            rw [r1]; rfl
          · rcases List.mem_cons.1 hu with rfl | hu
            · exact k2
            · exact r2 u hu
        · cases he
      | tmp t =>
        simp only [compR, Option.some.injEq] at hx
        subst hx
        simp only [ressE, resE] at he
        split at he
        · rename_i v hv
          obtain ⟨l', hl, rfl⟩ := Option.map_eq_some_iff.1 he
          obtain ⟨q1, q2, q3⟩ := hF.get t v hv
          obtain ⟨r1, r2⟩ := res_ok R hF rs es' l' hes hl
          refine ⟨?_, fun u hu => ?_⟩
          · simp only [List.mapM_cons, Sem.run_bind, Sem.run_pure, Result.andThen_ok, q2, List.map_cons]
            rw [r1]; rfl
          · rcases List.mem_cons.1 hu with rfl | hu
            · exact q3
            · exact r2 u hu
        · cases he
    · cases hc

theorem results_ok {ρ : Nat → Ph} {h : LH} {fr : Fr} {a : Act} {w : World} (R : Rel P w0 ρ h w) (hF : FrR ρ h.length N fr a) {fn : Func} {es : List ER} {h' : LH} {v : FV} (hc : compRs P fn.results.toList = some es) (he : packL (ressE fr h es) h = some (v, h')) :
    (results fn a.tmps).run P w = .ok (cv ρ v) w ∧ wfV ρ h.length v ∧ h' = h := by
  unfold packL at he
  split at he
  · rename_i l hl
    split at he
    · rename_i hfl
      simp only [Option.some.injEq, Prod.mk.injEq] at he
      obtain ⟨rfl, rfl⟩ := he
      obtain ⟨q1, q2⟩ := res_ok (P := P) R hF fn.results.toList es l hc hl
      obtain ⟨r1, r2⟩ := flat1_wf hfl q2
      refine ⟨?_, ?_, rfl⟩
      · unfold results
        rw [Sem.run_bind, Array.mapM_eq_mapM_toList]
        rw [map_eq_pure_bind, Sem.run_bind]
        have q1' := q1
        first
          | rw [q1']
          | (have e : ∀ (r : ResultVar), (match r with
              | .tmp t => (pure (a.tmps.getD t undef) : Sem Value)
              | .cell c t => do loadVar t (← asAddr (a.tmps.getD c undef))) = (match r with
              | .tmp t => (pure (a.tmps.getD t undef) : Sem Value)
              | .cell c t => do loadVar t (← asAddr (a.tmps.getD c undef))) := fun _ => rfl
             erw [q1'])
        simp only [Result.andThen_ok, Sem.run_pure]
        cases l with
        | nil => rfl
        | cons x r =>
          cases r with
          | nil => rfl
          | cons y r =>
            simp only [packE, cv]
            rw [← r2]
            simp
      · cases l with
        | nil => exact fun v hv => by cases hv
        | cons x r =>
          cases r with
          | nil => exact q2 x List.mem_cons_self
          | cons y r => exact fun v hv => r1 v hv
    · cases he
  · cases he

/-- A function that is known by what it comes to. -/
def XOK (P : Program) (G : Base → Prop) (f : Nat) (e : EF) : Prop := ∃ (k m : Nat) (g : List FV → LH → Option (List FV × LH)), e = ⟨k, .ext k m g, (List.range m).map fun i => .tmp (k + i)⟩ ∧
  ∀ (w0 : Base), G w0 → ∀ (args : List FV) (h : LH) (vs : List FV) (h' : LH) (ρ : Nat → Ph) (w : World), args.length = k → g args h = some (vs, h') → vs.length = m → flat1 vs = true → Rel P w0 ρ h w → (∀ u ∈ args, wfV ρ h.length u) →
    (∃ fn, P.funcs[f]? = some fn ∧ fn.name ≠ "runtime.NumGoroutine" ∧ fn.body.isSome = true) ∧
    Calls P f (args.map (cv ρ)).toArray w fun e w' => ∃ ρ', e = .returned (cv ρ' (packE vs)) ∧ Rel P w0 ρ' h' w' ∧ Ext h.length ρ ρ' ∧ h.length ≤ h'.length ∧ wfV ρ' h'.length (packE vs)

theorem args_init : ∀ (vs : List FV) (k : Nat), argsF (initE k vs) k vs.length = some vs := by
  have key : ∀ (vs : List FV) (k : Nat) (fr : Fr), (∀ i, i < vs.length → fget fr (k + i) = vs[i]?) → argsF fr k vs.length = some vs := by
    intro vs
    induction vs with
    | nil => intro k fr _; rfl
    | cons v r ih =>
      intro k fr hf
      simp only [List.length_cons, argsF]
      have h0 := hf 0 (by simp)
      rw [Nat.add_zero, List.getElem?_cons_zero] at h0
      rw [h0]
      simp only
      rw [ih (k + 1) fr fun i hi => by
        have := hf (i + 1) (by simpa using hi)
        rw [List.getElem?_cons_succ] at this
        rw [← this]; congr 1; omega]
      rfl
  intro vs k
  refine key vs k _ fun i hi => ?_
  clear key
  induction vs generalizing k i with
  | nil => simp at hi
  | cons v r ih =>
    simp only [initE, fget]
    cases i with
    | zero => rw [if_pos (by omega)]; rfl
    | succ i =>
      rw [if_neg (by omega), List.getElem?_cons_succ]
      have := ih (k + 1) i (by simpa using hi)
      rw [show k + (i + 1) = k + 1 + i by omega]; exact this

theorem init_fget : ∀ (vs : List FV) (k i : Nat), i < vs.length → fget (initE k vs) (k + i) = vs[i]?
  | [], k, i, h => by simp at h
  | v :: r, k, i, h => by
    simp only [initE, fget]
    cases i with
    | zero => rw [if_pos (by omega)]; rfl
    | succ i =>
      rw [if_neg (by omega), List.getElem?_cons_succ]
      have := init_fget r (k + 1) i (by simpa using h)
      rw [show k + (i + 1) = k + 1 + i by omega]; exact this

theorem args_len {fr : Fr} : ∀ (n i : Nat) (vs : List FV), argsF fr i n = some vs → vs.length = n ∧ ∀ j, j < n → fget fr (i + j) = vs[j]?
  | 0, i, vs, h => by simp only [argsF, Option.some.injEq] at h; subst h; simp
  | n + 1, i, vs, h => by
    simp only [argsF] at h
    split at h
    · rename_i v hv
      obtain ⟨r, hr, rfl⟩ := Option.map_eq_some_iff.1 h
      obtain ⟨h1, h2⟩ := args_len n (i + 1) r hr
      refine ⟨by simp [h1], fun j hj => ?_⟩
      cases j with
      | zero => exact hv
      | succ j => rw [List.getElem?_cons_succ, ← h2 j (by omega)]; congr 1; omega
    · cases h

theorem ress_init {h : LH} : ∀ (m k i : Nat) (vs rs : List FV), ressE (initE k vs) h ((List.range' i m).map fun i => .tmp (k + i)) = some rs → rs.length = m ∧ ∀ j, j < m → vs[i + j]? = rs[j]?
  | 0, k, i, vs, rs, he => by simp only [List.range'_zero, List.map_nil, ressE, Option.some.injEq] at he; subst he; simp
  | m + 1, k, i, vs, rs, he => by
    rw [List.range'_succ, List.map_cons] at he
    simp only [ressE, resE] at he
    split at he
    · rename_i v hv
      obtain ⟨r, hr, rfl⟩ := Option.map_eq_some_iff.1 he
      obtain ⟨h1, h2⟩ := ress_init m k (i + 1) vs r hr
      refine ⟨by simp [h1], fun j hj => ?_⟩
      cases j with
      | zero =>
        have hl : i < vs.length := by
          apply Classical.byContradiction
          intro hn
          have : ∀ (vs : List FV) (k i : Nat), vs.length ≤ i → fget (initE k vs) (k + i) = none := by
            intro vs
            induction vs with
            | nil => intro k i _; rfl
            | cons v r ih =>
              intro k i hi
              simp only [List.length_cons] at hi
              simp only [initE, fget]
              rw [if_neg (by omega)]
              have := ih (k + 1) (i - 1) (by omega)
              rw [show k + 1 + (i - 1) = k + i by omega] at this
              exact this
          rw [this vs k i (by omega)] at hv
          cases hv
        rw [init_fget vs k i hl] at hv
        rw [Nat.add_zero]; exact hv
      | succ j => rw [List.getElem?_cons_succ, ← h2 j (by omega)]; congr 1; omega
    · cases he

theorem call_ok {G : Base → Prop} (hG : Stays P G) (hm : P.follows .mixedOrders = true) {C : Nat → Option EF} (hC : ∀ f e, C f = some e → (∃ hs, compF P f hs = some e) ∨ XOK P G f e) : ∀ (n : Nat) (w0 : Base), G w0 → CallOK P w0 (callE C n)
  | 0, w0, hg => fun f args h v h' ρ w he => by cases he
  | n + 1, w0, hg => fun f args h v h' ρ w he R hwf => by
    simp only [callE] at he
    split at he
    · cases he
    · rename_i e hf
      rcases hC f e hf with ⟨hs, hcF⟩ | ⟨k, m, g, rfl, hx⟩
      rotate_left
      · -- known by what it comes to
        split at he
        · rename_i hle
          simp only [codeE, extE] at he
          cases hag : argsF (initE 0 args) 0 k with
          | none => rw [hag] at he; simp at he
          | some as =>
            rw [hag] at he
            simp only [Option.bind_some] at he
            obtain ⟨l1, l2⟩ := args_len k 0 as hag
            have has : as = args := by
              refine List.ext_getElem? fun j => ?_
              rcases Nat.lt_or_ge j k with hj | hj
              · rw [← l2 j hj]
                have hja : j < args.length := by
                  apply Classical.byContradiction
                  intro hn
                  have h1 := l2 j hj
                  rw [Nat.zero_add] at h1
                  have h2 : fget (initE 0 args) j = none := by
                    cases hq : fget (initE 0 args) j with
                    | none => rfl
                    | some u =>
                      have := (init_get args 0 j u hq).2
                      rw [Nat.sub_zero] at this
                      have := (List.getElem?_eq_some_iff.1 this).1
                      exact absurd this hn
                  rw [h2] at h1
                  have : j < as.length := by omega
                  rw [List.getElem?_eq_getElem this] at h1
                  cases h1
                have := init_fget args 0 j hja
                rw [this]
              · rw [List.getElem?_eq_none (by omega), List.getElem?_eq_none (by simp only at hle; omega)]
            subst has
            split at he
            · rename_i vs h1 hgr
              split at hgr
              · rename_i vs2 h2 hg2
                split at hgr
                · rename_i hm2
                  split at hgr
                  · rename_i hl
                    simp only [Option.some.injEq, Prod.mk.injEq, true_and] at hgr
                    obtain ⟨rfl, rfl⟩ := hgr
                    unfold packL at he
                    split at he
                    · rename_i rs hrs
                      split at he
                      · rename_i hfl
                        simp only [Option.some.injEq, Prod.mk.injEq] at he
                        obtain ⟨rfl, rfl⟩ := he
                        have hrs' : ressE (initE k vs2) h2 ((List.range' 0 m).map fun i => .tmp (k + i)) = some rs := by
                          rw [← List.range_eq_range']; exact hrs
                        obtain ⟨r1, r2⟩ := ress_init m k 0 vs2 rs hrs'
                        have ers : rs = vs2 := by
                          refine List.ext_getElem? fun j => ?_
                          rcases Nat.lt_or_ge j m with hj | hj
                          · rw [← r2 j hj, Nat.zero_add]
                          · rw [List.getElem?_eq_none (by omega), List.getElem?_eq_none (by omega)]
                        subst ers
                        exact hx w0 hg _ h rs h2 ρ w l1 hg2 hm2 hfl R hwf
                      · cases he
                    · cases he
                  · cases hgr
                · cases hgr
              · cases hgr
            · rename_i vs h1 hgr
              split at hgr
              · split at hgr
                · split at hgr <;> cases hgr
                · cases hgr
              · cases hgr
            · cases he
        · cases he
      unfold compF at hcF
      split at hcF
      · rename_i fn hfn
        split at hcF
        · rename_i c hb
          split at hcF
          · rename_i hname
            split at hcF
            · rename_i x r hx hr
              obtain rfl := Option.some.inj hcF
              split at he
              · rename_i hle
                refine ⟨⟨fn, hfn, by simpa using hname, by rw [hb]; rfl⟩, ?_⟩
                refine calls_of_wp hfn hb ?_
                have hF0 : FrR ρ h.length fn.ntmps (initE 0 args) { tmps := (args.map (cv ρ)).toArray ++ Array.replicate (fn.ntmps - (args.map (cv ρ)).toArray.size) undef, defers := [] } := by
                  refine ⟨?_, rfl, fun t u hu => ?_⟩
                  · simp only [Array.size_append, Array.size_replicate, List.size_toArray, List.length_map]
                    simp only at hle; omega
                  · obtain ⟨q1, q2⟩ := init_get args 0 t u hu
                    rw [Nat.sub_zero] at q2
                    have hlt := (List.getElem?_eq_some_iff.1 q2).1
                    simp only at hle
                    refine ⟨by omega, ?_, hwf u (List.mem_of_getElem? q2)⟩
                    rw [Array.getD_eq_getD_getElem?, Array.getElem?_append_left (by simpa using hlt)]
                    simp [q2]
                split at he
                · rename_i fr1 h1 he1
                  refine code_ok hG hg hm (call_ok hG hm hC n) (callE_grow C n) n c hs x.1 x.2 hx _ h _ fr1 h1 he1 ρ _ w R hF0 _ (fun ρ1 a1 w1 q1 q2 q3 q4 => ?_)
                  obtain ⟨r1, r2, rfl⟩ := results_ok (P := P) q1 q2 hr he
                  exact ⟨q2.defers, _, r1, ρ1, rfl, q1, q3, q4, r2⟩
                · rename_i fr1 h1 he1
                  refine code_ok hG hg hm (call_ok hG hm hC n) (callE_grow C n) n c hs x.1 x.2 hx _ h _ fr1 h1 he1 ρ _ w R hF0 _ (fun ρ1 a1 w1 q1 q2 q3 q4 => ?_)
                  obtain ⟨r1, r2, rfl⟩ := results_ok (P := P) q1 q2 hr he
                  exact ⟨q2.defers, _, r1, ρ1, rfl, q1, q3, q4, r2⟩
                · cases he
              · cases he
            · cases hcF
          · cases hcF
        · cases hcF
      · cases hcF

end
end Go.Proofs.YtiljgimcipdadaaGreatDoor.Ev
