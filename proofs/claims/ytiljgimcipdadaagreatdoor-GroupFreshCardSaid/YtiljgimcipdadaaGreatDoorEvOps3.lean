/- The other operations, and all of them together. -/
import Derived.Test.YtiljgimcipdadaaGreatDoorEvOps2
set_option linter.unusedVariables false
set_option linter.unusedSimpArgs false
namespace Go.Proofs.YtiljgimcipdadaaGreatDoor.Ev
open Go Go.RowKit

variable {P : Program} {w0 : Base}
section
variable {ρ : Nat → Ph} {h : LH} {w : World} {N : Nat} {fr : Fr} {a : Act}

theorem unE_ok {op : UnOp} {v r : SV} (he : unE op v = some r) : (Op.unary op (c0 ρ v)).run P w = .ok (c0 ρ r) w ∧ ∀ n, wf ρ n r := by
  unfold unE at he
  split at he
  · obtain rfl := Option.some.inj he
    exact ⟨by simp [Op.unary, Op.intArith, c0], fun _ => trivial⟩
  · obtain rfl := Option.some.inj he
    exact ⟨by simp [Op.unary, c0], fun _ => trivial⟩
  · cases he

theorem compODs_ok (hF : FrR ρ h.length N fr a) : ∀ {l : List Operand} {ys : List OD} {vs : List FV}, compODs l = some ys → odL fr ys = some vs → l.map a.eval = vs.map (cv ρ) ∧ ∀ v ∈ vs, wfV ρ h.length v
  | [], ys, vs, hc, he => by
    simp only [compODs, Option.some.injEq] at hc
    subst hc
    simp only [odL, Option.some.injEq] at he
    subst he
    exact ⟨rfl, by simp⟩
  | x :: r, ys, vs, hc, he => by
    simp only [compODs] at hc
    split at hc
    · rename_i y hx
      obtain ⟨ys', hy, rfl⟩ := Option.map_eq_some_iff.1 hc
      simp only [odL] at he
      split at he
      · rename_i v hv
        obtain ⟨vs', hvs, rfl⟩ := Option.map_eq_some_iff.1 he
        obtain ⟨e1, e2⟩ := od_sound hF hx hv
        obtain ⟨q1, q2⟩ := compODs_ok hF hy hvs
        refine ⟨by rw [List.map_cons, List.map_cons, e1, q1], fun u hu => ?_⟩
        rcases List.mem_cons.1 hu with rfl | hu
        · exact e2
        · exact q2 u hu
      · cases he
    · cases hc

theorem flat1_wf {l : List FV} {n : Nat} (hf : flat1 l = true) (hw : ∀ v ∈ l, wfV ρ n v) : (∀ v ∈ l, wf1 ρ n v) ∧ l.map (cv ρ) = l.map (c1 ρ) := by
  induction l with
  | nil => exact ⟨by simp, rfl⟩
  | cons v r ih =>
    cases v with
    | tup l => cases hf
    | s v =>
      obtain ⟨q1, q2⟩ := ih hf (fun v hv => hw v (List.mem_cons_of_mem _ hv))
      refine ⟨fun u hu => ?_, by rw [List.map_cons, List.map_cons, q2]; rfl⟩
      rcases List.mem_cons.1 hu with rfl | hu
      · exact hw _ List.mem_cons_self
      · exact q1 u hu
    | agg v =>
      obtain ⟨q1, q2⟩ := ih hf (fun v hv => hw v (List.mem_cons_of_mem _ hv))
      refine ⟨fun u hu => ?_, by rw [List.map_cons, List.map_cons, q2]; rfl⟩
      rcases List.mem_cons.1 hu with rfl | hu
      · exact hw _ List.mem_cons_self
      · exact q1 u hu

theorem bound_ok (hF : FrR ρ h.length N fr a) {o : Option Operand} {y : Option OD} (hc : compOpt o = some y) {d l : Nat} (hb : bound fr d y = some l) :
    (o = none ∧ l = d) ∨ ∃ x k n, o = some x ∧ a.eval x = .int k n ∧ 0 ≤ n ∧ n.toNat = l := by
  cases o with
  | none =>
    simp only [compOpt, Option.some.injEq] at hc
    subst hc
    simp only [bound, Option.some.injEq] at hb
    exact .inl ⟨rfl, hb.symm⟩
  | some x =>
    obtain ⟨z, hz, rfl⟩ := Option.map_eq_some_iff.1 hc
    simp only [bound] at hb
    split at hb
    · rename_i k n hk
      split at hb
      · rename_i hn
        obtain rfl := Option.some.inj hb
        exact .inr ⟨x, k, n, rfl, (ods_sound hF hz hk).1, hn, rfl⟩
      · cases hb
    · cases hb

theorem run_sliceBound {v : Value} {k : IntKind} {n : Int} {y : Nat} {code : BoundsCode} (hv : v = .int k n) (h0 : 0 ≤ n) (h1 : n.toNat ≤ y) : (Instr.sliceBound v y code).run P w = .ok n.toNat w := by
  subst hv
  have : 0 ≤ n ∧ n ≤ (y : Int) := ⟨h0, by omega⟩
  simp [Instr.sliceBound, asIntOf, this]

theorem run_sliceBounds {s : Bool} {len cap l u : Nat} {lo hi : Option Operand} (hlo : (lo = none ∧ l = 0) ∨ ∃ x k n, lo = some x ∧ a.eval x = .int k n ∧ 0 ≤ n ∧ n.toNat = l)
    (hhi : (hi = none ∧ u = len) ∨ ∃ x k n, hi = some x ∧ a.eval x = .int k n ∧ 0 ≤ n ∧ n.toNat = u) (h1 : l ≤ u) (h2 : u ≤ len) (h3 : len ≤ cap) :
    (Instr.sliceBounds s len cap (lo.map a.eval) (hi.map a.eval) none).run P w = .ok (l, u, cap) w := by
  rcases hhi with ⟨rfl, rfl⟩ | ⟨x, k, n, rfl, e1, e2, rfl⟩
  · rcases hlo with ⟨rfl, rfl⟩ | ⟨x, k, n, rfl, e1, e2, rfl⟩
    · simp [Instr.sliceBounds]
    · have := run_sliceBound (P := P) (w := w) (code := .sliceB) e1 e2 h1
      simp [Instr.sliceBounds, this]
  · have hu := run_sliceBound (P := P) (w := w) (y := cap) (code := if s then .sliceAcap else .sliceAlen) e1 e2 (by omega)
    rcases hlo with ⟨rfl, rfl⟩ | ⟨x', k', n', rfl, e1', e2', rfl⟩
    · simp [Instr.sliceBounds, hu]
    · have := run_sliceBound (P := P) (w := w) (code := .sliceB) e1' e2' h1
      simp [Instr.sliceBounds, hu, this]

theorem sliceAt_eq {t : TypeId} (ht : (∀ n e, P.underlying t ≠ some (.array n e))) {d : TypeDesc} (hd : P.underlying t = some d) (x : Value) (lo hi mx : Option Value) : (Instr.sliceAt t x lo hi mx).run P w = (Instr.slice t x lo hi mx).run P w := by
  unfold Instr.sliceAt
  rw [Sem.run_bind, run_underlying hd, Result.andThen_ok]
  cases d <;> first
    | rfl
    | exact absurd hd (ht _ _)

theorem elemOfS_ok {t e : TypeId} (he : elemOfS P t = some e) : P.underlying t = some (.slice e) := by
  unfold elemOfS at he
  split at he
  · rename_i e' hu; obtain rfl := Option.some.inj he; exact hu
  · cases he

theorem isStr_ok {t : TypeId} (h : isStr P t = true) : P.underlying t = some .string := by
  unfold isStr at h
  split at h
  · assumption
  · cases h

theorem Addr.add_adr (b o k : Nat) : (⟨b, o, none⟩ : Addr).add k = ⟨b, o + k, none⟩ := Addr.add_mid b o k

theorem subs_ok (R : Rel P w0 ρ h w) (hF : FrR ρ h.length N fr a) {t : TypeId} {x : Operand} {lo hi : Option Operand} {y : OD} {l u : Option OD} (hx : compOD x = some y) (hl : compOpt lo = some l) (hu : compOpt hi = some u) (hstr : P.underlying t = some .string) {v : FV} {h' : LH} (he : opE fr h (.subs y l u) = some (v, h')) :
    Res P w0 ρ h w (do pure (Next.value (← Instr.sliceAt t (a.eval x) (lo.map a.eval) (hi.map a.eval) none))) v h' := by
  simp only [opE] at he
  split at he
  · rename_i s hs
    obtain ⟨e1, e2⟩ := ods_sound hF hx hs
    split at he
    · rename_i l' u' hl' hu'
      split at he
      · rename_i h1
        split at he
        · rename_i h2
          simp only [Option.some.injEq, Prod.mk.injEq] at he
          obtain ⟨rfl, rfl⟩ := he
          refine Res.val R ?_ trivial
          rw [sliceAt_eq (by rw [hstr]; simp) hstr, e1]
          simp only [Instr.slice, Sem.run_bind, run_underlying hstr, Result.andThen_ok, c0, Option.isSome_none, Bool.false_eq_true, if_false]
          rw [run_sliceBounds (bound_ok hF hl hl') (bound_ok hF hu hu') h1 h2 (Nat.le_refl _)]
          rfl
        · cases he
      · cases he
    · cases he
  · cases he

theorem sli_ok (R : Rel P w0 ρ h w) (hF : FrR ρ h.length N fr a) {t : TypeId} {x : Operand} {lo hi : Option Operand} {y : OD} {l u : Option OD} {e z : Nat} (hx : compOD x = some y) (hl : compOpt lo = some l) (hu : compOpt hi = some u)
    {i : TypeInfo} (hu' : P.underlying t = some (.slice e)) (hi' : P.info? e = some i) (hz : z = i.size) {v : FV} {h' : LH} (he : opE fr h (.sli e z y l u) = some (v, h')) :
    Res P w0 ρ h w (do pure (Next.value (← Instr.sliceAt t (a.eval x) (lo.map a.eval) (hi.map a.eval) none))) v h' := by
  simp only [opE] at he
  split at he
  · rename_i hs
    subst hz
    obtain ⟨e1, e2⟩ := ods_sound hF hx hs
    split at he
    · rename_i hl' hh'
      simp only [Option.some.injEq, Prod.mk.injEq] at he
      obtain ⟨rfl, rfl⟩ := he
      refine Res.val R ?_ trivial
      rw [sliceAt_eq (by rw [hu']; simp) hu', e1]
      have hb := run_sliceBounds (P := P) (w := w) (a := a) (s := true) (len := 0) (cap := 0) (bound_ok hF hl hl') (bound_ok hF hu hh') (Nat.le_refl _) (Nat.le_refl _) (Nat.le_refl _)
      simp only [Instr.slice, Sem.run_bind, run_underlying hu', Result.andThen_ok, c0, hb, run_sizeOf_ok hi', Sem.run_pure]
      rfl
    · cases he
  · rename_i j p o n hs
    subst hz
    obtain ⟨e1, e2⟩ := ods_sound hF hx hs
    simp only [wf] at e2
    split at he
    · rename_i l' u' t' vs hl' hh' hc
      split at he
      · rename_i htt
        subst htt
        split at he
        · rename_i h1
          split at he
          · rename_i h2
            simp only [Option.some.injEq, Prod.mk.injEq] at he
            obtain ⟨rfl, rfl⟩ := he
            obtain ⟨q1, q2, q3, q4⟩ := R.cells hc
            rw [cellsOf_info hi'] at q2
            refine Res.val R ?_ ?_
            · rw [sliceAt_eq (by rw [hu']; simp) hu', e1]
              have hb := run_sliceBounds (P := P) (w := w) (a := a) (s := true) (len := n) (cap := (ρ j).cap - o) (bound_ok hF hl hl') (bound_ok hF hu hh') h1 h2 (by omega)
              simp only [Instr.slice, Sem.run_bind, run_underlying hu', Result.andThen_ok, c0, hb, run_sizeOf_ok hi', Sem.run_pure, cv, Option.map_some]
              congr 1
              have hcap : (ρ j).cap - o - l' = (ρ j).cap - (o + l') := by omega
              rw [hcap]
              congr 1
              by_cases hl0 : l' = 0
              · subst hl0
                rw [if_pos rfl]
                simp only [Addr.add, Nat.zero_mul, if_true, ite_self, Nat.add_zero]
              · rw [if_neg hl0, adr_room (p := ρ j) (q := p) (o := o) (by omega)]
                by_cases hc' : (ρ j).cap - o = l'
                · rw [if_pos hc']
                  unfold adr
                  rw [if_pos (by omega)]
                · rw [if_neg hc', Addr.add_mid]
                  unfold adr
                  rw [if_neg (by omega), q2, Nat.add_mul, Nat.add_assoc]
            · simp only [wfV, wf]; omega
          · cases he
        · cases he
      · cases he
    · cases he
  · cases he

theorem sli0_ok (R : Rel P w0 ρ h w) (hF : FrR ρ h.length N fr a) {t e : TypeId} {x u m : Operand} {y : OD} (ht : P.underlying t = some (.slice e)) {i : TypeInfo} (hi : P.info? e = some i) (hx : compOD x = some y) (hu : isNum0 u = true) (hm : isNum0 m = true) {v : FV} {h' : LH} (he : opE fr h (.sli0 y) = some (v, h')) :
    Res P w0 ρ h w (do pure (Next.value (← Instr.sliceAt t (a.eval x) none (some (a.eval u)) (some (a.eval m))))) v h' := by
  have hz : ∀ o, isNum0 o = true → ∃ k, a.eval o = .int k 0 := by
    intro o ho
    unfold isNum0 at ho
    split at ho
    · exact ⟨_, rfl⟩
    · cases ho
  obtain ⟨k1, hu'⟩ := hz u hu
  obtain ⟨k2, hm'⟩ := hz m hm
  have hb : ∀ len cap, (Instr.sliceBounds true len cap none (some (a.eval u)) (some (a.eval m))).run P w = .ok (0, 0, 0) w := by
    intro len cap
    have b1 := run_sliceBound (P := P) (w := w) (y := cap) (code := .slice3Acap) hm' (Int.le_refl _) (by simp)
    have b2 := run_sliceBound (P := P) (w := w) (y := 0) (code := .slice3B) hu' (Int.le_refl _) (by simp)
    simp only [Int.toNat_zero] at b1 b2
    simp [Instr.sliceBounds, b1, b2]
  simp only [opE] at he
  have fin : ∀ s, odS fr y = some s → (s = .nils ∧ v = .s .nils ∧ h' = h) ∨ (∃ j p o n, s = .sl j p o n ∧ v = .s (.sl0 j p o) ∧ h' = h) ∨ (∃ j p o, s = .sl0 j p o ∧ v = .s (.sl0 j p o) ∧ h' = h) := by
    intro s hs
    rw [hs] at he
    cases s <;> simp only [Option.some.injEq, Prod.mk.injEq] at he <;> first
      | (cases he; done)
      | (obtain ⟨rfl, rfl⟩ := he; simp)
  cases hs : odS fr y with
  | none => rw [hs] at he; cases he
  | some s =>
    obtain ⟨e1, e2⟩ := ods_sound hF hx hs
    rcases fin s hs with ⟨rfl, rfl, rfl⟩ | ⟨j, p, o, n, rfl, rfl, rfl⟩ | ⟨j, p, o, rfl, rfl, rfl⟩
    · refine Res.val R ?_ trivial
      rw [sliceAt_eq (by rw [ht]; simp) ht, e1]
      simp only [Instr.slice, Sem.run_bind, run_underlying ht, Result.andThen_ok, c0, hb, run_sizeOf_ok hi, Sem.run_pure]
      rfl
    · refine Res.val R ?_ e2.1
      rw [sliceAt_eq (by rw [ht]; simp) ht, e1]
      simp only [Instr.slice, Sem.run_bind, run_underlying ht, Result.andThen_ok, c0, hb, run_sizeOf_ok hi, Sem.run_pure]
      rfl
    · refine Res.val R ?_ e2
      rw [sliceAt_eq (by rw [ht]; simp) ht, e1]
      simp only [Instr.slice, Sem.run_bind, run_underlying ht, Result.andThen_ok, c0, hb, run_sizeOf_ok hi, Sem.run_pure]
      rfl

end
end Go.Proofs.YtiljgimcipdadaaGreatDoor.Ev
