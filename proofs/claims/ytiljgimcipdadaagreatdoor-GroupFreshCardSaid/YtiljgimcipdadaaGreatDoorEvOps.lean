/- Each operation of the small machine tells what the model's does. -/
import Derived.Test.YtiljgimcipdadaaGreatDoorEvRel
import Derived.Laws.StructEq
set_option linter.unusedVariables false
set_option linter.unusedSimpArgs false
namespace Go.Proofs.YtiljgimcipdadaaGreatDoor.Ev
open Go Go.RowKit

variable {P : Program} {w0 : Base}

/-- What a step's run comes to. -/
def Res (P : Program) (w0 : Base) (ρ : Nat → Ph) (h : LH) (w : World) (s : Sem Next) (v : FV) (h' : LH) : Prop :=
  ∃ r ρ' w', s.run P w = .ok r w' ∧ (r = .value (cv ρ' v) ∨ (r = .skip ∧ cv ρ' v = undef)) ∧ Rel P w0 ρ' h' w' ∧ Ext h.length ρ ρ' ∧ h.length ≤ h'.length ∧ wfV ρ' h'.length v

section
variable {ρ : Nat → Ph} {h : LH} {w : World} {N : Nat} {fr : Fr} {a : Act}

theorem Res.same {s : Sem Next} {v : FV} (R : Rel P w0 ρ h w) (hs : s.run P w = .ok (.value (cv ρ v)) w) (hv : wfV ρ h.length v) : Res P w0 ρ h w s v h :=
  ⟨_, ρ, w, hs, .inl rfl, R, Ext.refl _ _, Nat.le_refl _, hv⟩

theorem run_v {s : Sem Value} {x : Value} {w w' : World} (hs : s.run P w = .ok x w') : (do pure (Next.value (← s)) : Sem Next).run P w = .ok (.value x) w' := by
  simp [hs]

theorem Res.val {s : Sem Value} {v : FV} (R : Rel P w0 ρ h w) (hs : s.run P w = .ok (cv ρ v) w) (hv : wfV ρ h.length v) : Res P w0 ρ h w (do pure (Next.value (← s))) v h :=
  Res.same R (run_v hs) hv

theorem cells_cv {v : FV} {l : List SV} {n : Nat} (hf : fcells v = some l) (hv : wfV ρ n v) : (cv ρ v).cells = (l.map (c0 ρ)).toArray := by
  cases v with
  | s v =>
    simp only [fcells, Option.some.injEq] at hf
    subst hf
    have := c0_one (ρ := ρ) hv
    simp only [cv, List.map_cons, List.map_nil]
    generalize c0 ρ v = u at *
    cases u <;> first
      | rfl
      | cases this
  | agg l' =>
    simp only [fcells, Option.some.injEq] at hf
    subst hf; rfl
  | tup l' => cases hf

theorem wf_fcells {v : FV} {l : List SV} {n : Nat} (hf : fcells v = some l) (hv : wfV ρ n v) : ∀ u ∈ l, wf ρ n u := by
  cases v with
  | s v =>
    simp only [fcells, Option.some.injEq] at hf
    subst hf
    intro u hu
    rw [List.mem_singleton.1 hu]; exact hv
  | agg l' =>
    simp only [fcells, Option.some.injEq] at hf
    subst hf; exact hv
  | tup l' => cases hf

theorem one_map {l : List SV} {n : Nat} (hl : ∀ u ∈ l, wf ρ n u) : ∀ u ∈ l.map (c0 ρ), u.oneCell' = true := by
  intro u hu
  obtain ⟨x, hx, rfl⟩ := List.mem_map.1 hu
  exact c0_one (hl x hx)

theorem rangeAt_part {b o : Nat} {cs : List Value} (hr : w.rangeAt b o cs) (k n : Nat) : w.rangeAt b (o + k) ((cs.drop k).take n) := by
  intro j v hv
  rw [List.getElem?_take] at hv
  split at hv
  · rw [List.getElem?_drop] at hv
    rw [Nat.add_assoc]; exact hr _ v hv
  · cases hv

theorem map_part (f : SV → Value) (vs : List SV) (k n : Nat) : ((vs.map f).drop k).take n = ((vs.drop k).take n).map f := by
  rw [← List.map_drop, ← List.map_take]

/-- Where an object's cells lie. -/
theorem Rel.cells (R : Rel P w0 ρ h w) {i t : Nat} {vs : List SV} (hi : cellsOf h i = some (t, vs)) :
    w.rangeAt (ρ i).blk (ρ i).base (vs.map (c0 ρ)) ∧ (ρ i).sz = P.cellsOf t ∧ (∀ v ∈ vs, wf ρ h.length v) ∧ i < h.length := by
  unfold cellsOf at hi
  split at hi
  · rename_i t' vs' hh
    simp only [Option.some.injEq, Prod.mk.injEq] at hi
    obtain ⟨rfl, rfl⟩ := hi
    obtain ⟨h1, h2, h3, h4, h5, h6, h7⟩ := R.obj i _ hh
    exact ⟨h5, h3, h7, obj_lt hh⟩
  · rename_i t' vs' hh
    simp only [Option.some.injEq, Prod.mk.injEq] at hi
    obtain ⟨rfl, rfl⟩ := hi
    obtain ⟨h1, h2, h3, h4⟩ := R.obj i _ hh
    exact ⟨h3, h2, h4, obj_lt hh⟩
  · cases hi

theorem tyOf_true {t n : Nat} (ht : tyOf P t = some (true, n)) : (∃ d, P.underlying t = some d ∧ d.isRow = true) ∧ (P.info? t).map (·.size) = some n := by
  unfold tyOf at ht
  split at ht
  · rename_i fs i hu hi
    simp only [Option.some.injEq, Prod.mk.injEq, true_and] at ht
    exact ⟨⟨_, hu, rfl⟩, by rw [hi]; simp [ht]⟩
  · rename_i hu hi
    simp only [Option.some.injEq, Prod.mk.injEq, true_and] at ht
    exact ⟨⟨_, hu, rfl⟩, by rw [hi]; simp [ht]⟩
  · simp at ht
  · cases ht

theorem tyOf_false {t n : Nat} (ht : tyOf P t = some (false, n)) : (∃ d, P.underlying t = some d ∧ d.isRow = false) ∧ (P.info? t).map (·.size) = some n := by
  unfold tyOf at ht
  split at ht
  · simp at ht
  · simp at ht
  · rename_i d i h1 h2 hu hi
    simp only [Option.some.injEq, Prod.mk.injEq, true_and] at ht
    refine ⟨⟨_, hu, ?_⟩, by rw [hi]; simp [ht]⟩
    cases d <;> first
      | rfl
      | (exfalso; first | exact h1 _ rfl | exact h2 _ _ rfl | exact h1 _ _ rfl | exact h2 _ rfl)
  · cases ht

theorem run_isAgg_false {t : Nat} {d : TypeDesc} (hu : P.underlying t = some d) (hd : d.isRow = false) : (isAgg t).run P w = .ok false w := by
  unfold isAgg
  rw [Sem.run_bind, run_underlying hu w]
  cases d <;> first
    | rfl
    | cases hd

theorem load_run (R : Rel P w0 ρ h w) (hF : FrR ρ h.length N fr a) {t : TypeId} {x : Operand} {y : OD} {g : Bool} {n : Nat} (ht : tyOf P t = some (g, n)) (hx : compOD x = some y) {v : FV} {h' : LH}
    (he : opE fr h (.load g n y) = some (v, h')) : (Instr.loadAt t (a.eval x)).run P w = .ok (cv ρ v) w ∧ wfV ρ h.length v ∧ h' = h := by
  simp only [opE] at he
  split at he
  · rename_i i o hy
    obtain ⟨e1, e2⟩ := ods_sound hF hx hy
    split at he
    · rename_i t' vs hc
      obtain ⟨q1, q2, q3, q4⟩ := R.cells hc
      cases g with
      | true =>
        rw [if_pos rfl] at he
        split at he
        · rename_i hle
          simp only [Option.some.injEq, Prod.mk.injEq] at he
          obtain ⟨rfl, rfl⟩ := he
          obtain ⟨⟨d, hu, hd⟩, hn⟩ := tyOf_true ht
          refine ⟨?_, (fun u hu => q3 u (List.mem_of_mem_drop (List.mem_of_mem_take hu))), rfl⟩
          rw [e1]
          simp only [c0, cv]
          refine run_loadAt_mid w _ _ t (((vs.drop o).take n).map (c0 ρ)) d ?_ hu hd ?_
          · rw [← map_part]; exact rangeAt_part q1 o n
          · rw [hn, List.length_map, List.length_take, List.length_drop]; congr 1; omega
        · cases he
      | false =>
        rw [if_neg (by decide)] at he
        split at he
        · rename_i u hu'
          simp only [Option.some.injEq, Prod.mk.injEq] at he
          obtain ⟨rfl, rfl⟩ := he
          obtain ⟨⟨d, hu, hd⟩, hn⟩ := tyOf_false ht
          refine ⟨?_, q3 u (List.mem_of_getElem? hu'), rfl⟩
          rw [e1]
          have hcell := q1 o (c0 ρ u) (by rw [List.getElem?_map, hu']; rfl)
          simp only [Instr.loadAt, Instr.sureAddr, c0, loadVar, Sem.run_bind, Sem.run_pure, Result.andThen_ok, run_isAgg_false hu hd, Bool.false_eq_true, if_false, run_load, hcell, cv]
        · cases he
    · cases he
  · cases he

theorem load_ok (R : Rel P w0 ρ h w) (hF : FrR ρ h.length N fr a) {t : TypeId} {x : Operand} {y : OD} {g : Bool} {n : Nat} (ht : tyOf P t = some (g, n)) (hx : compOD x = some y) {v : FV} {h' : LH}
    (he : opE fr h (.load g n y) = some (v, h')) : Res P w0 ρ h w (do pure (Next.value (← Instr.loadAt t (a.eval x)))) v h' := by
  obtain ⟨q1, q2, rfl⟩ := load_run R hF ht hx he
  exact Res.val R q1 q2

theorem run_storeVar_any {t : TypeId} {b o : Nat} {u : Value} (ht : w.there b o u.cells.size) (hn : (P.info? t).map (·.size) = some u.cells.size) (h1 : ∀ v ∈ u.cells.toList, v.oneCell' = true) :
    (storeVar t ⟨b, o, none⟩ u).run P w = .ok () (w.setCells b o u.cells.toList) := by
  have := run_storeCells_cells (P := P) b o u.cells.toList 0 w (fun j hj => by simpa using (ht j (by simpa using hj)).1) (fun j hj => by simpa using (ht j (by simpa using hj)).2) h1
  cases hq : P.info? t with
  | none => simp [hq] at hn
  | some i =>
    have hs : u.cells.size = i.size := by simp [hq] at hn; omega
    simp only [Nat.add_zero] at this
    simp [storeVar, sizeOf, typeInfo, hq, hs, this]

theorem store_ok (R : Rel P w0 ρ h w) (hF : FrR ρ h.length N fr a) {t : TypeId} {x z : Operand} {y y' : OD} {g : Bool} {n : Nat} (ht : tyOf P t = some (g, n)) (hx : compOD x = some y) (hz : compOD z = some y') {v : FV} {h' : LH}
    (he : opE fr h (.store n y y') = some (v, h')) : Res P w0 ρ h w (do Instr.storeAt t (a.eval x) (a.eval z); pure Next.skip) v h' := by
  simp only [opE] at he
  split at he
  · rename_i i o l hy hb
    obtain ⟨e1, e2⟩ := ods_sound hF hx hy
    obtain ⟨fv, hfv, hl⟩ := Option.bind_eq_some_iff.1 hb
    obtain ⟨e3, e4⟩ := od_sound hF hz hfv
    split at he
    · rename_i t' vs hi
      split at he
      · rename_i hn
        split at he
        · rename_i hle
          simp only [Option.some.injEq, Prod.mk.injEq] at he
          obtain ⟨rfl, rfl⟩ := he
          have hwl := wf_fcells hl e4
          have hcl := cells_cv hl e4
          obtain ⟨b1, b2, b3, b4, b5, b6, b7⟩ := R.obj i _ hi
          have hsize : (P.info? t).map (·.size) = some n := by
            cases g
            · exact (tyOf_false ht).2
            · exact (tyOf_true ht).2
          refine ⟨.skip, ρ, _, ?_, .inr ⟨rfl, rfl⟩, R.store hi (l := l) (o := o) (by omega) hwl, Ext.refl _ _, by rw [List.length_set]; exact Nat.le_refl _, fun v hv => by cases hv⟩
          have hlen : (cv ρ fv).cells.size = n := by rw [hcl]; simp [hn]
          have hrun := run_storeVar_any (P := P) (w := w) (t := t) (b := (ρ i).blk) (o := (ρ i).base + o) (u := cv ρ fv) (fun j hj => by
            rw [Nat.add_assoc]; exact b4 (o + j) (by omega)) (by rw [hlen]; exact hsize) (by rw [hcl]; exact one_map hwl)
          rw [e1, e3]
          simp only [Instr.storeAt, Instr.sureAddr, c0, Sem.run_bind, Sem.run_pure, Result.andThen_ok, hrun]
          rw [hcl]
        · cases he
      · cases he
    · cases he
  · cases he

theorem cellsOf_P {t n : Nat} {g : Bool} (ht : tyOf P t = some (g, n)) : P.cellsOf t = n := by
  unfold Program.cellsOf
  cases g
  · rw [(tyOf_false ht).2]; rfl
  · rw [(tyOf_true ht).2]; rfl

theorem new_ok (R : Rel P w0 ρ h w) {t n : Nat} {g : Bool} (ht : tyOf P t = some (g, n)) {fv : FV} {l : List SV} (hv : wfV ρ h.length fv) (hl : fcells fv = some l) (hn : l.length = n) {s : Sem Value}
    (hs : s.run P w = (newVar t (cv ρ fv) >>= fun x => (pure (.pointer (some x)) : Sem Value)).run P w) :
    Res P w0 ρ h w (do pure (Next.value (← s))) (.s (.ptr h.length 0)) (h ++ [.own t l]) := by
  have hcl := cells_cv hl hv
  have hP := cellsOf_P ht
  refine ⟨_, upd ρ h.length ⟨w.heap.size, 0, P.cellsOf t, 1, undef⟩, w.alloc (.cells (cv ρ fv).cells t), run_v ?_, .inl rfl, ?_, upd_ext _ _ _, by simp, by simp [wfV, wf]⟩
  · rw [hs]
    simp [newVar, newRow, cv, c0, upd_self]
  · refine R.alloc t _ l 1 ?_ ?_ ?_ (wf_fcells hl hv)
    · rw [hcl]; simp; omega
    · omega
    · intro j v hj
      rw [hcl]; simp [hj]


/-! ### Structs and rows out of parts -/
theorem foldl_set (l : List SV) : ∀ (k off : Nat) (cs : List SV), ((l.map (c0 ρ)).zipIdx k).foldl (fun (xs : Array Value) (p : Value × Nat) => xs.setIfInBounds (off + p.2) p.1) (cs.map (c0 ρ)).toArray = ((setL cs (off + k) l).map (c0 ρ)).toArray := by
  induction l with
  | nil => intro k off cs; rfl
  | cons v r ih =>
    intro k off cs
    simp only [List.map_cons, List.zipIdx_cons, List.foldl_cons, setL]
    rw [show ((cs.map (c0 ρ)).toArray.setIfInBounds (off + k) (c0 ρ v)) = ((cs.set (off + k) v).map (c0 ρ)).toArray by simp [List.map_set]]
    have := ih (k + 1) off (cs.set (off + k) v)
    rw [this, Nat.add_assoc]

theorem fill_ok (hF : FrR ρ h.length N fr a) (place : Nat → Option (Nat × Nat)) : ∀ (parts : List (Nat × Operand)) (ps : List (Nat × Nat × OD)) (cs out : List SV), compParts place parts = some ps → fillE fr cs ps = some out → (∀ v ∈ cs, wf ρ h.length v) →
    Instr.fill place (cs.map (c0 ρ)).toArray (parts.map fun p => (p.1, a.eval p.2)) = some (out.map (c0 ρ)).toArray ∧ (∀ v ∈ out, wf ρ h.length v) ∧ out.length = cs.length
  | [], ps, cs, out, hc, he, hw => by
    simp only [compParts, Option.some.injEq] at hc
    subst hc
    simp only [fillE, Option.some.injEq] at he
    subst he
    exact ⟨rfl, hw, rfl⟩
  | (i, x) :: r, ps, cs, out, hc, he, hw => by
    simp only [compParts] at hc
    split at hc
    · rename_i o n y hp hx
      obtain ⟨ps', hps, rfl⟩ := Option.map_eq_some_iff.1 hc
      simp only [fillE] at he
      split at he
      · rename_i l hl
        split at he
        · rename_i hn
          split at he
          · rename_i hle
            obtain ⟨fv, hfv, hfc⟩ := Option.bind_eq_some_iff.1 hl
            obtain ⟨e1, e2⟩ := od_sound hF hx hfv
            have hcl := cells_cv hfc e2
            have hwl := wf_fcells hfc e2
            have hlen : cs.length = (setL cs o l).length := (setL_length l cs o).symm
            obtain ⟨q1, q2, q3⟩ := fill_ok hF place r ps' (setL cs o l) out hps he (fun v hv => (setL_mem (by omega) hv).elim (hw v) (hwl v))
            refine ⟨?_, q2, by omega⟩
            simp only [List.map_cons, Instr.fill, hp, e1]
            rw [hcl]
            have hsz : ((l.map (c0 ρ)).toArray).size = n := by simp [hn]
            rw [hsz]
            have hcond : ¬ ((decide (n ≠ n) || decide (o + n > ((cs.map (c0 ρ)).toArray).size)) = true) := by simp; omega
            rw [if_neg hcond]
            have hf : ((l.map (c0 ρ)).toArray.zipIdx.foldl (fun cs (p : Value × Nat) => cs.setIfInBounds (o + p.2) p.1) (cs.map (c0 ρ)).toArray) = ((setL cs o l).map (c0 ρ)).toArray := by
              have := foldl_set (ρ := ρ) l 0 o cs
              rw [Nat.add_zero] at this
              rw [← this, ← Array.foldl_toList]
              simp
            have hf' := hf
            rw [hf'] 
            exact q1
          · cases he
        · cases he
      · cases he
    · cases hc

theorem zeroOf_ok {t : TypeId} {z : List SV} (hz : zeroOf P t = some z) (ρ : Nat → Ph) : ∃ i u, P.info? t = some i ∧ i.zero = some u ∧ u.cells = (z.map (c0 ρ)).toArray ∧ ∀ n, ∀ v ∈ z, wf ρ n v := by
  unfold zeroOf at hz
  split at hz
  · rename_i i hi
    obtain ⟨u, hu, hl⟩ := Option.bind_eq_some_iff.1 hz
    exact ⟨i, u, hi, hu, by rw [absL_c0 hl], fun n => absL_wf hl ρ n⟩
  · cases hz

theorem run_zeroValue_ok {t : TypeId} {i : TypeInfo} {u : Value} (hi : P.info? t = some i) (hu : i.zero = some u) : (zeroValue t).run P w = .ok u w := by
  simp [zeroValue, typeInfo, hi, hu]

theorem run_sizeOf_ok {t : TypeId} {i : TypeInfo} (hi : P.info? t = some i) : (sizeOf t).run P w = .ok i.size w := by
  simp [sizeOf, typeInfo, hi]

theorem range_rep (z : List Value) (hz : 0 < z.length) : ∀ n, (List.range (n * z.length)).map (fun i => z.toArray[i % z.toArray.size]!) = (List.replicate n z).flatten := by
  intro n
  induction n with
  | zero => simp
  | succ n ih =>
    rw [Nat.succ_mul, List.range_add, List.map_append, ih, List.replicate_succ', List.flatten_append]
    congr 1
    simp only [List.flatten_cons, List.flatten_nil, List.append_nil, List.map_map]
    apply List.ext_getElem
    · simp
    · intro i h1 h2
      simp only [List.length_map, List.length_range] at h1
      simp only [List.getElem_map, List.getElem_range, Function.comp, List.size_toArray]
      rw [Nat.mul_comm n, Nat.mul_add_mod, Nat.mod_eq_of_lt h1]
      simp [h1]

theorem rep_map (f : SV → Value) (n : Nat) (z : List SV) : (rep n z).map f = (List.replicate n (z.map f)).flatten := by
  unfold rep
  induction n with
  | zero => rfl
  | succ n ih => rw [List.replicate_succ, List.flatten_cons, List.map_append, ih, List.replicate_succ, List.flatten_cons]

theorem rep_length (n : Nat) (z : List SV) : (rep n z).length = n * z.length := by
  unfold rep
  induction n with
  | zero => simp
  | succ n ih => rw [List.replicate_succ, List.flatten_cons, List.length_append, ih, Nat.succ_mul, Nat.add_comm]

theorem rep_wf {n m : Nat} {z : List SV} (hz : ∀ v ∈ z, wf ρ m v) : ∀ v ∈ rep n z, wf ρ m v := by
  intro v hv
  unfold rep at hv
  obtain ⟨l, hl, hm⟩ := List.mem_flatten.1 hv
  obtain ⟨_, rfl⟩ := List.mem_replicate.1 hl
  exact hz v hm

theorem zeros_array {z : List SV} (hz : 0 < z.length) (n : Nat) :
    (Array.range (n * z.length)).map (fun i => ((z.map (c0 ρ)).toArray)[i % ((z.map (c0 ρ)).toArray).size]!) = ((rep n z).map (c0 ρ)).toArray := by
  rw [rep_map]
  have := range_rep (z.map (c0 ρ)) (by simpa using hz) n
  rw [List.length_map] at this
  rw [← this]
  apply Array.ext'
  simp

theorem build_ok (R : Rel P w0 ρ h w) (hF : FrR ρ h.length N fr a) {t : TypeId} {parts : Array (Nat × Operand)} {z : List SV} {pl : List (Nat × Nat)} {ps : List (Nat × Nat × OD)} (hz : zeroOf P t = some z) (hp : placesOf P t = some pl)
    (hc : compParts (pl.toArray[·]?) parts.toList = some ps) {v : FV} {h' : LH} (he : opE fr h (.build z ps) = some (v, h')) :
    Res P w0 ρ h w (do pure (Next.value (← Instr.build t (parts.map fun p => (p.1, a.eval p.2))))) v h' := by
  simp only [opE] at he
  obtain ⟨out, ho, hq⟩ := Option.map_eq_some_iff.1 he
  obtain ⟨rfl, rfl⟩ := Prod.mk.inj hq
  obtain ⟨i, u, hi, hu, hcell, hwf⟩ := zeroOf_ok hz ρ
  obtain ⟨q1, q2, q3⟩ := fill_ok hF _ parts.toList ps z out hc ho (hwf _)
  refine Res.val R ?_ q2
  refine run_build w t _ _ ?_
  unfold placesOf at hp
  split at hp
  · rename_i fields hd
    unfold Program.built
    simp only [hi, hd, hu, hp, hcell]
    rw [← q1]
    simp
  · cases hp

theorem bsl_ok (R : Rel P w0 ρ h w) (hF : FrR ρ h.length N fr a) {t e : TypeId} {n : Nat} {parts : Array (Nat × Operand)} {i : TypeInfo} {z : List SV} {ps : List (Nat × Nat × OD)} (ht : P.underlying t = some (.slice e)) (hi : P.info? e = some i) (hz : zeroOf P e = some z)
    (hle : n * i.size ≤ 16777216) (h0 : 0 < i.size) (hzl : z.length = i.size) (hc : compParts (fun j => some (j * i.size, i.size)) parts.toList = some ps) {v : FV} {h' : LH} (he : opE fr h (.bsl e n z ps) = some (v, h')) :
    Res P w0 ρ h w (do pure (Next.value (← Instr.buildSlice t n (parts.map fun p => (p.1, a.eval p.2))))) v h' := by
  simp only [opE] at he
  obtain ⟨out, ho, hq⟩ := Option.map_eq_some_iff.1 he
  obtain ⟨rfl, rfl⟩ := Prod.mk.inj hq
  obtain ⟨i', u, hi', hu, hcell, hwf⟩ := zeroOf_ok hz ρ
  rw [hi] at hi'
  obtain rfl := Option.some.inj hi'
  obtain ⟨q1, q2, q3⟩ := fill_ok hF _ parts.toList ps (rep n z) out hc ho (rep_wf (hwf _))
  rw [rep_length] at q3
  have hP : P.cellsOf e = i.size := by unfold Program.cellsOf; rw [hi]; rfl
  refine ⟨_, upd ρ h.length ⟨w.heap.size, 0, P.cellsOf e, n, undef⟩, w.alloc (.cells (out.map (c0 ρ)).toArray e), run_v ?_, .inl rfl, ?_, upd_ext _ _ _, by simp, ?_⟩
  · have hsz : (sizeOf e).run P w = .ok i.size w := run_sizeOf_ok hi
    have hzv : (zeroValue e).run P w = .ok u w := run_zeroValue_ok hi hu
    have hza := zeros_array (ρ := ρ) (z := z) (by omega) n
    rw [hzl] at hza
    have hfill : Instr.fill (fun j => some (j * i.size, i.size)) ((rep n z).map (c0 ρ)).toArray (parts.map fun p => (p.1, a.eval p.2)).toList = some (out.map (c0 ρ)).toArray := by
      rw [← q1]; simp
    simp only [Instr.buildSlice, Sem.run_bind, run_underlying ht, Result.andThen_ok, hsz]
    have hn : ¬ (2 ^ 24 < n * i.size) := by omega
    by_cases c : n * i.size = 0
    · have hn0 : n = 0 := by
        rcases Nat.mul_eq_zero.1 c with h | h
        · exact h
        · omega
      subst hn0
      simp only [gt_iff_lt, hn, if_false, Sem.run_pure, Result.andThen_ok, Nat.zero_mul, if_true]
      simp only [rep, List.replicate_zero, List.flatten_nil, List.map_nil] at hfill
      rw [Array.toList_map] at hfill
      simp [hfill, newRow, cv, c0, adr, upd_self, Array.range]
    · simp only [gt_iff_lt, hn, if_false, Sem.run_pure, Result.andThen_ok, c]
      simp only [Sem.run_bind, hzv, Result.andThen_ok, Sem.run_pure, hcell, hza, hfill]
      simp [newRow, cv, c0, adr, upd_self]
  · refine R.alloc e _ out n ?_ ?_ ?_ q2
    · rw [hP]; simp [q3, hzl]
    · rw [hP, q3, hzl]; exact Nat.le_refl _
    · intro j v hj; simp [hj]
  · simp only [wfV, wf, upd_self, List.length_append, List.length_singleton]
    omega

/-! ### Numbers, strings, tests -/
theorem run_eqGuard {op : BinOp} {t : TypeId} {x y : Operand} {u v : Value} (h1 : u = .nilIface → v ≠ .nilIface) (h2 : ∀ xs ys, u = .agg xs → v ≠ .agg ys) : (eqGuard op t x y u v).run P w = .ok () w := by
  unfold eqGuard
  cases op <;> simp
  all_goals
    split
    · exact absurd rfl (h1 rfl)
    · exact absurd rfl (h2 _ _ rfl)
    · rfl

theorem run_intOp {op : BinOp} {k : IntKind} {m n : Int} {r : SV} (hs : ¬ (op = .shl ∨ op = .shr)) (he : intOp op k m n = some r) (t : TypeId) : (binOp op t (.int k m) (.int k n)).run P w = .ok (c0 ρ r) w := by
  cases op <;> simp only [intOp] at he <;> first
    | (obtain rfl := Option.some.inj he; simp [binOp, Op.intArith, Op.intCmp, Op.intBits, c0]; done)
    | (split at he <;> first | (cases he; done) | (obtain rfl := Option.some.inj he; rename_i hne; simp [binOp, Op.intDiv, hne, c0]; done))
    | (cases he; done)
    | (exfalso; simp at hs)

theorem run_shOp {op : BinOp} {k k' : IntKind} {m n : Int} {r : SV} (he : shOp op k m n = some r) (t : TypeId) : (binOp op t (.int k m) (.int k' n)).run P w = .ok (c0 ρ r) w := by
  unfold shOp at he
  split at he
  · cases he
  · rename_i hn
    cases op <;> simp only at he <;> first
      | (cases he; done)
      | (obtain rfl := Option.some.inj he; simp [binOp, Op.shift, hn, c0])

theorem run_strOp {op : BinOp} {x y : ByteArray} {r : SV} (he : strOp op x y = some r) (t : TypeId) : (binOp op t (.string x) (.string y)).run P w = .ok (c0 ρ r) w := by
  cases op <;> simp only [strOp] at he <;> first
    | (obtain rfl := Option.some.inj he; simp [binOp, Op.stringOp, c0]; done)
    | (cases he; done)
    | (split at he
       · rename_i hle
         obtain rfl := Option.some.inj he
         have : ¬ (IntKind.i64.max < ((x.size + y.size : Nat) : Int)) := by
           have e : IntKind.i64.max = 9223372036854775807 := by rfl
           omega
         simp only [binOp, Op.stringOp, gt_iff_lt, this, if_false, Sem.run_pure, c0]
       · cases he)


theorem run_cplOp {op : BinOp} {x y u v : Nat} {r : SV} (he : cplOp op x y u v = some r) (t : TypeId) : (binOp op t (.complex .f64 x y) (.complex .f64 u v)).run P w = .ok (c0 ρ r) w := by
  cases op <;> simp only [cplOp] at he <;> first
    | (cases he; done)
    | (obtain rfl := Option.some.inj he; simp [binOp, Op.complexOp, Op.Complex.cmp, Op.floatCmp, asBool, c0]; done)
    | (split at he
       · rename_i p q hp hq
         obtain rfl := Option.some.inj he
         simp [binOp, Op.complexOp, Op.Complex.arith, Op.floatArith, hp, hq, c0]
       · cases he)

theorem run_fltOp {op : BinOp} {x y : Nat} {r : SV} (he : fltOp op x y = some r) (t : TypeId) : (binOp op t (.float .f64 x) (.float .f64 y)).run P w = .ok (c0 ρ r) w := by
  cases op <;> simp only [fltOp] at he <;> first
    | (cases he; done)
    | (obtain rfl := Option.some.inj he; simp [binOp, Op.floatCmp, c0]; done)

theorem c0_not_iface {v : SV} {n : Nat} : (∃ k m, v = .int k m) ∨ (∃ s, v = .str s) ∨ (∃ k x y, v = .cpl k x y) ∨ (∃ k x, v = .flt k x) ∨ (∃ b, v = .bool b) ∨ v = .nilp ∨ (∃ i o, v = .ptr i o) ∨ v = .nils ∨ (∃ i p o m, v = .sl i p o m) ∨ (∃ i p o, v = .sl0 i p o) →
    c0 ρ v ≠ .nilIface ∧ ∀ xs, c0 ρ v ≠ .agg xs := by
  rintro (⟨_, _, rfl⟩ | ⟨_, rfl⟩ | ⟨_, _, _, rfl⟩ | ⟨_, _, rfl⟩ | ⟨_, rfl⟩ | rfl | ⟨_, _, rfl⟩ | rfl | ⟨_, _, _, _, rfl⟩ | ⟨_, _, _, rfl⟩) <;> simp [c0]

theorem run_binE {op : BinOp} {u v r : SV} (he : binE op u v = some r) (t : TypeId) (x y : Operand) : (do eqGuard op t x y (c0 ρ u) (c0 ρ v); binOp op t (c0 ρ u) (c0 ρ v)).run P w = .ok (c0 ρ r) w := by
  unfold binE at he
  split at he
  · rename_i k m k' n
    rw [Sem.run_bind, run_eqGuard (by simp [c0]) (by simp [c0]), Result.andThen_ok]
    split at he
    · exact run_shOp he t
    · rename_i hs
      split at he
      · rename_i hk; subst hk; exact run_intOp hs he t
      · cases he
  · rw [Sem.run_bind, run_eqGuard (by simp [c0]) (by simp [c0]), Result.andThen_ok]
    exact run_strOp he t
  · rw [Sem.run_bind, run_eqGuard (by simp [c0]) (by simp [c0]), Result.andThen_ok]
    exact run_cplOp he t
  · rw [Sem.run_bind, run_eqGuard (by simp [c0]) (by simp [c0]), Result.andThen_ok]
    exact run_fltOp he t
  · cases he

theorem binE_wf {op : BinOp} {u v r : SV} (he : binE op u v = some r) (n : Nat) : wf ρ n r := by
  have : (∃ b, r = .bool b) ∨ (∃ k m, r = .int k m) ∨ (∃ s, r = .str s) ∨ (∃ k a b, r = .cpl k a b) := by
    unfold binE at he
    split at he
    · split at he
      · unfold shOp at he
        split at he
        · cases he
        · split at he <;> first | (cases he; done) | (obtain rfl := Option.some.inj he; first | exact .inl ⟨_, rfl⟩ | exact .inr (.inl ⟨_, _, rfl⟩) | exact .inr (.inr (.inl ⟨_, rfl⟩)) | exact .inr (.inr (.inr ⟨_, _, _, rfl⟩)))
      · split at he
        · unfold intOp at he
          split at he <;> first | (cases he; done) | (obtain rfl := Option.some.inj he; first | exact .inl ⟨_, rfl⟩ | exact .inr (.inl ⟨_, _, rfl⟩) | exact .inr (.inr (.inl ⟨_, rfl⟩)) | exact .inr (.inr (.inr ⟨_, _, _, rfl⟩))) | (split at he <;> first | (cases he; done) | (obtain rfl := Option.some.inj he; first | exact .inl ⟨_, rfl⟩ | exact .inr (.inl ⟨_, _, rfl⟩) | exact .inr (.inr (.inl ⟨_, rfl⟩)) | exact .inr (.inr (.inr ⟨_, _, _, rfl⟩))))
        · cases he
    · unfold strOp at he
      split at he <;> first | (cases he; done) | (obtain rfl := Option.some.inj he; first | exact .inl ⟨_, rfl⟩ | exact .inr (.inl ⟨_, _, rfl⟩) | exact .inr (.inr (.inl ⟨_, rfl⟩)) | exact .inr (.inr (.inr ⟨_, _, _, rfl⟩))) | (split at he <;> first | (cases he; done) | (obtain rfl := Option.some.inj he; first | exact .inl ⟨_, rfl⟩ | exact .inr (.inl ⟨_, _, rfl⟩) | exact .inr (.inr (.inl ⟨_, rfl⟩)) | exact .inr (.inr (.inr ⟨_, _, _, rfl⟩))))
    · unfold cplOp at he
      split at he <;> first | (cases he; done) | (obtain rfl := Option.some.inj he; first | exact .inl ⟨_, rfl⟩ | exact .inr (.inl ⟨_, _, rfl⟩) | exact .inr (.inr (.inl ⟨_, rfl⟩)) | exact .inr (.inr (.inr ⟨_, _, _, rfl⟩))) | (split at he <;> first | (cases he; done) | (obtain rfl := Option.some.inj he; first | exact .inl ⟨_, rfl⟩ | exact .inr (.inl ⟨_, _, rfl⟩) | exact .inr (.inr (.inl ⟨_, rfl⟩)) | exact .inr (.inr (.inr ⟨_, _, _, rfl⟩))))
    · unfold fltOp at he
      split at he <;> first | (cases he; done) | (obtain rfl := Option.some.inj he; first | exact .inl ⟨_, rfl⟩ | exact .inr (.inl ⟨_, _, rfl⟩) | exact .inr (.inr (.inl ⟨_, rfl⟩)) | exact .inr (.inr (.inr ⟨_, _, _, rfl⟩)))
    · cases he
  rcases this with ⟨_, rfl⟩ | ⟨_, _, rfl⟩ | ⟨_, rfl⟩ | ⟨_, _, _, rfl⟩ <;> trivial

theorem maxDepth_succ : Op.maxDepth = 9998 + 2 := rfl

theorem run_eq_of {op : BinOp} {t : TypeId} {u v : Value} {b : Bool} (hop : op = .eql ∨ op = .neq) (hne : ∀ k a b, ¬ (u = .int k a ∧ ∃ k', v = .int k' b)) (hs : ∀ s s', ¬ (u = .string s ∧ v = .string s')) (hf : ∀ k s k' s', ¬ (u = .float k s ∧ v = .float k' s'))
    (hc : ∀ k s r k' s' r', ¬ (u = .complex k s r ∧ v = .complex k' s' r')) (he : (Op.equal t u v).run P w = .ok b w) : (binOp op t u v).run P w = .ok (.bool (if decide (op = .neq) then !b else b)) w := by
  rcases hop with rfl | rfl
  · have : binOp .eql t u v = (do pure (.bool (← Op.equal t u v))) := by
      unfold binOp
      split <;> first
        | rfl
        | (rename_i h; cases h; done)
        | (exfalso; first | exact hne _ _ _ ⟨rfl, _, rfl⟩ | exact hs _ _ ⟨rfl, rfl⟩ | exact hf _ _ _ _ ⟨rfl, rfl⟩ | exact hc _ _ _ _ _ _ ⟨rfl, rfl⟩)
        | simp_all
    rw [this]; simp [he]
  · have : binOp .neq t u v = (do pure (.bool (!(← Op.equal t u v)))) := by
      unfold binOp
      split <;> first
        | rfl
        | (rename_i h; cases h; done)
        | (exfalso; first | exact hne _ _ _ ⟨rfl, _, rfl⟩ | exact hs _ _ ⟨rfl, rfl⟩ | exact hf _ _ _ _ ⟨rfl, rfl⟩ | exact hc _ _ _ _ _ _ ⟨rfl, rfl⟩)
        | simp_all
    rw [this]; simp [he]


theorem neqB_cv (q b : Bool) : cv ρ (neqB q b) = .bool (if q then !b else b) := rfl

theorem run_eqV {op : BinOp} {t : TypeId} {u v : Value} {b : Bool} (hop : op = .eql ∨ op = .neq) (hne : ∀ k a b, ¬ (u = .int k a ∧ ∃ k', v = .int k' b)) (hs : ∀ s s', ¬ (u = .string s ∧ v = .string s')) (hf : ∀ k s k' s', ¬ (u = .float k s ∧ v = .float k' s'))
    (hc : ∀ k s r k' s' r', ¬ (u = .complex k s r ∧ v = .complex k' s' r')) (hi : u = .nilIface → v ≠ .nilIface) (hg : ∀ xs ys, u = .agg xs → v ≠ .agg ys) (he : (Op.equal t u v).run P w = .ok b w) (x y : Operand) :
    (do eqGuard op t x y u v; binOp op t u v).run P w = .ok (cv ρ (neqB (decide (op = .neq)) b)) w := by
  rw [Sem.run_bind, run_eqGuard hi hg, Result.andThen_ok, run_eq_of hop hne hs hf hc he, neqB_cv]

theorem run_ptr_eq {t e : TypeId} (ht : P.underlying t = some (.pointer e)) {u v : SV} {b : Bool} (he : eqpE u v = some b) (d : Nat) : (Op.equalIn (d + 1) t (c0 ρ u) (c0 ρ v)).run P w = .ok b w := by
  unfold eqpE at he
  split at he <;> first | (cases he; done) | (obtain rfl := Option.some.inj he)
  all_goals simp [Op.equalIn, run_underlying ht, c0]

theorem run_sl_eq {t e : TypeId} (ht : P.underlying t = some (.slice e)) {u v : SV} {b : Bool} (he : eqnE u v = some b) (d : Nat) : (Op.equalIn (d + 1) t (c0 ρ u) (c0 ρ v)).run P w = .ok b w := by
  unfold eqnE at he
  split at he <;> first | (cases he; done) | (obtain rfl := Option.some.inj he)
  all_goals simp [Op.equalIn, run_underlying ht, c0]

theorem run_eqpE {t e : TypeId} (ht : P.underlying t = some (.pointer e)) {u v : SV} {b : Bool} (he : eqpE u v = some b) {op : BinOp} (hop : op = .eql ∨ op = .neq) (x y : Operand) :
    (do eqGuard op t x y (c0 ρ u) (c0 ρ v); binOp op t (c0 ρ u) (c0 ρ v)).run P w = .ok (cv ρ (neqB (decide (op = .neq)) b)) w := by
  have hr := run_ptr_eq (w := w) (ρ := ρ) ht he 9999
  unfold eqpE at he
  split at he <;> first | (cases he; done) | (obtain rfl := Option.some.inj he)
  all_goals exact run_eqV hop (by simp [c0]) (by simp [c0]) (by simp [c0]) (by simp [c0]) (by simp [c0]) (by simp [c0]) hr x y

theorem run_eqnE {t e : TypeId} (ht : P.underlying t = some (.slice e)) {u v : SV} {b : Bool} (he : eqnE u v = some b) {op : BinOp} (hop : op = .eql ∨ op = .neq) (x y : Operand) :
    (do eqGuard op t x y (c0 ρ u) (c0 ρ v); binOp op t (c0 ρ u) (c0 ρ v)).run P w = .ok (cv ρ (neqB (decide (op = .neq)) b)) w := by
  have hr := run_sl_eq (w := w) (ρ := ρ) ht he 9999
  unfold eqnE at he
  split at he <;> first | (cases he; done) | (obtain rfl := Option.some.inj he)
  all_goals exact run_eqV hop (by simp [c0]) (by simp [c0]) (by simp [c0]) (by simp [c0]) (by simp [c0]) (by simp [c0]) hr x y

theorem run_eqb {t : TypeId} (ht : P.underlying t = some .bool) (a b : Bool) {op : BinOp} (hop : op = .eql ∨ op = .neq) (x y : Operand) :
    (do eqGuard op t x y (.bool a) (.bool b); binOp op t (.bool a) (.bool b)).run P w = .ok (cv ρ (neqB (decide (op = .neq)) (a == b))) w :=
  run_eqV hop (by simp) (by simp) (by simp) (by simp) (by simp) (by simp) (run_equal_bool w t a b ht) x y

theorem run_part_cell {t : TypeId} {d : TypeDesc} (hu : P.underlying t = some d) (hd : d.isRow = false) {l : List SV} {o : Nat} {v : SV} (hv : l[o]? = some v) : (part t (l.map (c0 ρ)).toArray o).run P w = .ok (c0 ρ v) w := by
  unfold part
  rw [Sem.run_bind, run_isAgg_false hu hd, Result.andThen_ok, if_neg (by decide)]
  simp [hv]

theorem cellEq_run {t : TypeId} {q : Nat} {u v : SV} {b : Bool} (he : cellEq q u v = some b) (ht : (∃ k, P.underlying t = some (.int k) ∧ q = 0) ∨ (P.underlying t = some .bool ∧ q = 1) ∨ (P.underlying t = some .string ∧ q = 2)) (d : Nat) :
    (Op.equalIn (d + 1) t (c0 ρ u) (c0 ρ v)).run P w = .ok b w := by
  unfold cellEq at he
  split at he
  · rename_i k a k' a'
    split at he
    · rename_i hk; subst hk
      obtain rfl := Option.some.inj he
      rcases ht with ⟨k2, h1, _⟩ | ⟨_, h⟩ | ⟨_, h⟩
      · exact run_equalIn_int w d t k k2 a a' h1
      · cases h
      · cases h
    · cases he
  · rename_i a a'
    obtain rfl := Option.some.inj he
    rcases ht with ⟨k2, h1, h⟩ | ⟨h1, _⟩ | ⟨_, h⟩
    · cases h
    · exact run_equalIn_bool w d t a a' h1
    · cases h
  · rename_i a a'
    obtain rfl := Option.some.inj he
    rcases ht with ⟨k2, h1, h⟩ | ⟨_, h⟩ | ⟨h1, _⟩
    · cases h
    · cases h
    · rw [beq_toListBytes]; exact run_equalIn_string w d t a a' h1
  · cases he

theorem not_row_of {t : TypeId} {q : Nat} (ht : (∃ k, P.underlying t = some (.int k) ∧ q = 0) ∨ (P.underlying t = some .bool ∧ q = 1) ∨ (P.underlying t = some .string ∧ q = 2)) : ∃ d, P.underlying t = some d ∧ d.isRow = false := by
  rcases ht with ⟨k, h, _⟩ | ⟨h, _⟩ | ⟨h, _⟩
  · exact ⟨_, h, rfl⟩
  · exact ⟨_, h, rfl⟩
  · exact ⟨_, h, rfl⟩

theorem eqFields_run {xs ys : List SV} (d : Nat) : ∀ (fs : List Field) (ps : List (Nat × Nat)) (b : Bool), eqPlaces P fs = some ps → cellsEq xs ys ps = some b →
    (Op.eqFields (d + 1) (xs.map (c0 ρ)).toArray (ys.map (c0 ρ)).toArray fs).run P w = .ok b w
  | [], ps, b, hp, he => by
    simp only [eqPlaces, Option.some.injEq] at hp
    subst hp
    simp only [cellsEq, Option.some.injEq] at he
    subst he
    rfl
  | f :: r, ps, b, hp, he => by
    have key : ∃ q ps', ps = (f.offset, q) :: ps' ∧ eqPlaces P r = some ps' ∧ f.name ≠ "_" ∧ ((∃ k, P.underlying f.type = some (.int k) ∧ q = 0) ∨ (P.underlying f.type = some .bool ∧ q = 1) ∨ (P.underlying f.type = some .string ∧ q = 2)) := by
      unfold eqPlaces at hp
      split at hp
      · cases hp
      · rename_i hn
        split at hp
        · rename_i k hu
          obtain ⟨ps', h1, rfl⟩ := Option.map_eq_some_iff.1 hp
          exact ⟨0, ps', rfl, h1, hn, .inl ⟨k, hu, rfl⟩⟩
        · rename_i hu
          obtain ⟨ps', h1, rfl⟩ := Option.map_eq_some_iff.1 hp
          exact ⟨1, ps', rfl, h1, hn, .inr (.inl ⟨hu, rfl⟩)⟩
        · rename_i hu
          obtain ⟨ps', h1, rfl⟩ := Option.map_eq_some_iff.1 hp
          exact ⟨2, ps', rfl, h1, hn, .inr (.inr ⟨hu, rfl⟩)⟩
        · cases hp
    obtain ⟨q, ps', rfl, hp', hn, ht⟩ := key
    obtain ⟨dd, hu, hd⟩ := not_row_of ht
    simp only [cellsEq] at he
    split at he
    · rename_i x y hx hy
      split at he
      · rename_i hce
        simp only [Op.eqFields, if_pos hn, Sem.run_bind, run_part_cell hu hd hx, run_part_cell hu hd hy, Result.andThen_ok, cellEq_run hce ht d]
        simpa using eqFields_run d r ps' b hp' he
      · rename_i hce
        obtain rfl := Option.some.inj he
        simp only [Op.eqFields, if_pos hn, Sem.run_bind, run_part_cell hu hd hx, run_part_cell hu hd hy, Result.andThen_ok, cellEq_run hce ht d]
        simp
      · cases he
    · cases he

theorem run_eqs {t : TypeId} {fs : Array Field} {ps : List (Nat × Nat)} {xs ys : List SV} {b : Bool} (ht : P.underlying t = some (.struct fs)) (hg : P.eqGuardType P.depth t = false) (hp : P.stoodInHeld t = false) (hc : eqPlaces P fs.toList = some ps) (he : cellsEq xs ys ps = some b)
    {op : BinOp} (hop : op = .eql ∨ op = .neq) (x y : Operand) :
    (do eqGuard op t x y (.agg (xs.map (c0 ρ)).toArray) (.agg (ys.map (c0 ρ)).toArray); binOp op t (.agg (xs.map (c0 ρ)).toArray) (.agg (ys.map (c0 ρ)).toArray)).run P w = .ok (cv ρ (neqB (decide (op = .neq)) b)) w := by
  have hf : P.fieldsOf t = fs := by simp [Program.fieldsOf, ht]
  have hq : (Op.equalIn 10000 t (.agg (xs.map (c0 ρ)).toArray) (.agg (ys.map (c0 ρ)).toArray)).run P w = .ok b w := by
    rw [show (10000 : Nat) = 9998 + 1 + 1 from rfl, run_equalIn_struct w _ t _ _ (by rw [hf]; exact ht) hp, hf]
    exact eqFields_run 9998 fs.toList ps b hc he
  rw [Sem.run_bind, run_eqGuard_agg w op t x y _ _ hg, Result.andThen_ok]
  rcases hop with rfl | rfl
  · rw [run_eql_struct, hq]; rfl
  · rw [run_neq_struct, hq]; rfl

end
end Go.Proofs.YtiljgimcipdadaaGreatDoor.Ev
