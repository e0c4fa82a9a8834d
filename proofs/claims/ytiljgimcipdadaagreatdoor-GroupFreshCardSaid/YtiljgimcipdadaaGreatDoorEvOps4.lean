/- The last of the operations; and all of them together. -/
import Derived.Test.YtiljgimcipdadaaGreatDoorEvOps3
import Derived.Laws.BytesString
set_option linter.unusedVariables false
set_option linter.unusedSimpArgs false
namespace Go.Proofs.YtiljgimcipdadaaGreatDoor.Ev
open Go Go.RowKit

variable {P : Program} {w0 : Base}
section
variable {ρ : Nat → Ph} {h : LH} {w : World} {N : Nat} {fr : Fr} {a : Act}

theorem Res.pseudo {s : Sem Value} {v : SV} (R : Rel P w0 ρ h w) (o : LO) (hh : o.holds = false) (u : Value) (hs : s.run P w = .ok u w) (hv : v = .cl h.length ∨ v = .iv h.length) (h1 : u.oneCell' = true)
    (ho : ObjR P w0.B (upd ρ h.length ⟨0, 0, 0, 0, u⟩) (h.length + 1) ⟨0, 0, 0, 0, u⟩ w o) : Res P w0 ρ h w (do pure (Next.value (← s))) (.s v) (h ++ [o]) := by
  refine ⟨_, upd ρ h.length ⟨0, 0, 0, 0, u⟩, w, run_v hs, .inl ?_, R.pseudo _ o hh ho, upd_ext _ _ _, by simp, ?_⟩
  · rcases hv with rfl | rfl <;> simp [cv, c0, upd_self]
  · rcases hv with rfl | rfl <;> simp [wfV, wf, upd_self, h1]

theorem mkf_ok (R : Rel P w0 ρ h w) (hF : FrR ρ h.length N fr a) {f : Nat} {first caps : Array Operand} {x y : List OD} (hx : compODs first.toList = some x) (hy : compODs caps.toList = some y) {v : FV} {h' : LH} (he : opE fr h (.mkf f x y) = some (v, h')) :
    Res P w0 ρ h w (do pure (Next.value (← Instr.makeFunc (.func f) (first.map a.eval) (caps.map a.eval)))) v h' := by
  simp only [opE] at he
  split at he
  · rename_i xs ys hxs hys
    split at he
    · rename_i hfl
      simp only [Option.some.injEq, Prod.mk.injEq] at he
      obtain ⟨rfl, rfl⟩ := he
      rw [Bool.and_eq_true] at hfl
      obtain ⟨a1, a2⟩ := compODs_ok hF hx hxs
      obtain ⟨b1, b2⟩ := compODs_ok hF hy hys
      obtain ⟨w1, m1⟩ := flat1_wf hfl.1 a2
      obtain ⟨w2, m2⟩ := flat1_wf hfl.2 b2
      rw [m1] at a1
      rw [m2] at b1
      have ea : first.map a.eval = (xs.map (c1 ρ)).toArray := by apply Array.ext'; simpa using a1
      have eb : caps.map a.eval = (ys.map (c1 ρ)).toArray := by apply Array.ext'; simpa using b1
      have hu : Ext h.length ρ (upd ρ h.length ⟨0, 0, 0, 0, .func (.func f) (xs.map (c1 ρ)).toArray (ys.map (c1 ρ)).toArray⟩) := upd_ext _ _ _
      refine Res.pseudo R (.clo f xs ys) rfl (.func (.func f) (xs.map (c1 ρ)).toArray (ys.map (c1 ρ)).toArray) ?_ (.inl rfl) rfl ⟨?_, fun u hu' => wf1_ext hu (by omega) (w1 u hu'), fun u hu' => wf1_ext hu (by omega) (w2 u hu')⟩
      · rw [ea, eb]; rfl
      · rw [List.map_congr_left fun u hm => c1_ext hu (w1 u hm), List.map_congr_left fun u hm => c1_ext hu (w2 u hm)]
    · cases he
  · cases he

theorem mki_ok (R : Rel P w0 ρ h w) (hF : FrR ρ h.length N fr a) {t : TypeId} {d : TypeDesc} (hd : P.underlying t = some d) (hni : ∀ ms, d ≠ .interface ms) {x : Operand} {y : OD} (hx : compOD x = some y) {v : FV} {h' : LH} (he : opE fr h (.mki t y) = some (v, h')) :
    Res P w0 ρ h w (do pure (Next.value (← Instr.makeInterface t (a.eval x)))) v h' := by
  simp only [opE] at he
  split at he
  · rename_i u hu
    split at he
    · rename_i hfl
      simp only [Option.some.injEq, Prod.mk.injEq] at he
      obtain ⟨rfl, rfl⟩ := he
      obtain ⟨e1, e2⟩ := od_sound hF hx hu
      obtain ⟨w1, m1⟩ := flat1_wf (l := [u]) hfl (by simpa using e2)
      have w1' := w1 u List.mem_cons_self
      have hext : Ext h.length ρ (upd ρ h.length ⟨0, 0, 0, 0, .iface t (c1 ρ u)⟩) := upd_ext _ _ _
      refine Res.pseudo R (.ifc t u) rfl (.iface t (c1 ρ u)) ?_ (.inr rfl) rfl ⟨by rw [c1_ext hext w1'], wf1_ext hext (by omega) w1'⟩
      rw [e1, cv_of_wf1 w1']
      unfold Instr.makeInterface
      rw [Sem.run_bind, run_underlying hd, Result.andThen_ok]
      cases d <;> first
        | rfl
        | exact absurd rfl (hni _)
    · cases he
  · cases he

theorem wrap_i64 {n : Int} (h0 : 0 ≤ n) (h1 : n < 9223372036854775808) : IntKind.i64.wrap n = n := by
  simp [IntKind.wrap, IntKind.bits, IntKind.signed]; omega

theorem mks_ok (R : Rel P w0 ρ h w) (hF : FrR ρ h.length N fr a) {t e : TypeId} {l c : Operand} {y : OD} {i : TypeInfo} {z : List SV} (ht : P.underlying t = some (.slice e)) (hi : P.info? e = some i) (hz : zeroOf P e = some z) (hs : sameOp l c = true) (h0 : 0 < i.size) (hb0 : 0 < i.bytes) (hzl : z.length = i.size)
    (hl : compOD l = some y) {v : FV} {h' : LH} (he : opE fr h (.mks e i.bytes z y) = some (v, h')) : Res P w0 ρ h w (do pure (Next.value (← Instr.makeSlice t (a.eval l) (a.eval c)))) v h' := by
  simp only [opE] at he
  split at he
  · rename_i n hn
    obtain ⟨e1, e2⟩ := ods_sound hF hl hn
    split at he
    · rename_i hn0
      split at he
      · rename_i hle
        simp only [Option.some.injEq, Prod.mk.injEq] at he
        obtain ⟨rfl, rfl⟩ := he
        have ec : a.eval c = a.eval l := by
          unfold sameOp at hs
          split at hs
          · rw [beq_iff_eq] at hs; rw [hs]
          · rw [beq_iff_eq] at hs; rw [hs]
          · cases hs
        obtain ⟨i', u, hi', hu, hcell, hwf⟩ := zeroOf_ok hz ρ
        rw [hi] at hi'
        obtain rfl := Option.some.inj hi'
        have hP := cellsOf_info hi
        by_cases hwrap : IntKind.i64.wrap n = n
        · refine ⟨_, upd ρ h.length ⟨w.heap.size, 0, P.cellsOf e, n.toNat, undef⟩, w.alloc (.cells ((rep n.toNat z).map (c0 ρ)).toArray e), run_v ?_, .inl rfl, ?_, upd_ext _ _ _, by simp, ?_⟩
          · rw [ec, e1]
            have hty : (typeInfo e).run P w = .ok i w := by simp [typeInfo, hi]
            have hza := zeros_array (ρ := ρ) (z := z) (by omega) n.toNat
            rw [hzl] at hza
            have hbig : ¬ ((i.bytes : Int) * n > 2 ^ 48) := by
              have : (i.bytes : Int) * n = ((n.toNat * i.bytes : Nat) : Int) := by
                rw [Int.natCast_mul, Int.toNat_of_nonneg hn0, Int.mul_comm]
              rw [this]; omega
            have hneg : ¬ (n < 0) := by omega
            simp only [Instr.makeSlice, Sem.run_bind, run_underlying ht, Result.andThen_ok, c0, asInt, asIntOf, Sem.run_pure, hty, hwrap]
            have hcond : ((decide (n < 0) || decide ((i.bytes : Int) * n > 2 ^ 48)) || decide (n < 0) || decide (n > n)) = false := by
              simp only [hneg, hbig, decide_false, Bool.or_false, gt_iff_lt, Int.lt_irrefl]
            rw [if_neg (by rw [hcond]; decide)]
            simp only [Sem.run_bind, run_askRoom, Result.andThen_ok, run_sizeOf_ok hi, Sem.run_ite, Sem.run_pure]
            by_cases c0' : n.toNat * i.size = 0
            · have hz0 : n.toNat = 0 := by
                rcases Nat.mul_eq_zero.1 c0' with h | h
                · exact h
                · omega
              have hr : ∀ f : Nat → Value, (Array.range (n.toNat * i.size)).map f = #[] := fun f => Array.eq_empty_of_size_eq_zero (by simp [c0'])
              rw [if_pos c0']
              simp only [Sem.run_bind, Sem.run_pure, Result.andThen_ok, hr]
              have hrep : rep n.toNat z = [] := List.eq_nil_of_length_eq_zero (by rw [rep_length, hz0, Nat.zero_mul])
              rw [hrep]
              simp [newRow, cv, c0, adr, upd_self, Int.toNat_of_nonneg hn0]
            · rw [if_neg c0']
              simp only [Sem.run_bind, run_zeroValue_ok hi hu, Result.andThen_ok, Sem.run_pure, hcell, hza]
              simp [newRow, cv, c0, adr, upd_self]
          · refine R.alloc e _ (rep n.toNat z) n.toNat ?_ ?_ ?_ (rep_wf (hwf _))
            · rw [hP]; simp [rep_length, hzl]
            · rw [hP, rep_length, hzl]; exact Nat.le_refl _
            · intro j x hj; simp [hj]
          · simp only [wfV, wf, upd_self, List.length_append, List.length_singleton]; omega
        · exfalso
          apply hwrap
          have : n.toNat ≤ 140737488355328 := by
            have := Nat.mul_le_mul_left n.toNat (show 1 ≤ i.bytes by omega)
            omega
          exact wrap_i64 hn0 (by omega)
      · cases he
    · cases he
  · cases he

theorem fieldOf_ok {s : TypeId} {f : Nat} {g : Field} (h : fieldOf P s f = some g) : ∃ fs, P.underlying s = some (.struct fs) ∧ fs[f]? = some g := by
  unfold fieldOf at h
  split at h
  · rename_i fs hu; exact ⟨fs, hu, h⟩
  · cases h

theorem fad_ok (R : Rel P w0 ρ h w) (hF : FrR ρ h.length N fr a) {s : TypeId} {f : Nat} {g : Field} {i : TypeInfo} (hf : fieldOf P s f = some g) (hi : P.info? g.type = some i) (h0 : 0 < i.size) {x : Operand} {y : OD} (hx : compOD x = some y) {v : FV} {h' : LH} (he : opE fr h (.fad g.offset y) = some (v, h')) :
    Res P w0 ρ h w (do pure (Next.value (← Instr.fieldAt s (a.eval x) f))) v h' := by
  simp only [opE] at he
  split at he
  · rename_i j o hj
    simp only [Option.some.injEq, Prod.mk.injEq] at he
    obtain ⟨rfl, rfl⟩ := he
    obtain ⟨e1, e2⟩ := ods_sound hF hx hj
    obtain ⟨fs, hu, hg⟩ := fieldOf_ok hf
    refine Res.val R ?_ e2
    rw [e1]
    have hz : ¬ (i.size = 0) := by omega
    simp only [Instr.fieldAt, Sem.run_bind, run_underlying hu, Result.andThen_ok, hg, c0, Instr.sureAddr, Sem.run_pure, fieldPlace, run_sizeOf_ok hi, hz, if_false, Addr.add_mid, cv, Nat.add_assoc]
  · cases he

theorem fld_ok (R : Rel P w0 ρ h w) (hF : FrR ρ h.length N fr a) {s : TypeId} {f : Nat} {g : Field} {q : Bool} {n : Nat} (hf : fieldOf P s f = some g) (ht : tyOf P g.type = some (q, n)) {x : Operand} {y : OD} (hx : compOD x = some y) {v : FV} {h' : LH} (he : opE fr h (.fld q g.offset n y) = some (v, h')) :
    Res P w0 ρ h w (do pure (Next.value (← Instr.field s (a.eval x) f))) v h' := by
  simp only [opE] at he
  split at he
  · rename_i l hl
    obtain ⟨e1, e2⟩ := od_sound hF hx hl
    obtain ⟨fs, hu, hg⟩ := fieldOf_ok hf
    cases q with
    | true =>
      rw [if_pos rfl] at he
      split at he
      · rename_i hle
        simp only [Option.some.injEq, Prod.mk.injEq] at he
        obtain ⟨rfl, rfl⟩ := he
        obtain ⟨⟨d, hud, hd⟩, hn⟩ := tyOf_true ht
        refine Res.val R ?_ (fun u hu' => e2 u (List.mem_of_mem_drop (List.mem_of_mem_take hu')))
        rw [e1]
        have hagg : (isAgg g.type).run P w = .ok true w := by
          unfold isAgg
          rw [Sem.run_bind, run_underlying hud w]
          cases d <;> simp_all
        cases hq : P.info? g.type with
        | none => simp [hq] at hn
        | some i =>
          have hs : i.size = n := by simpa [hq] using hn
          simp only [Instr.field, Sem.run_bind, run_underlying hu, Result.andThen_ok, hg, cv, asAgg, Sem.run_pure, part, hagg, if_true, run_sizeOf_ok hq, hs]
          congr 2
          apply Array.ext'
          simp [List.map_take, List.map_drop, List.take_drop]
      · cases he
    | false =>
      rw [if_neg (by decide)] at he
      split at he
      · rename_i u hu'
        simp only [Option.some.injEq, Prod.mk.injEq] at he
        obtain ⟨rfl, rfl⟩ := he
        obtain ⟨⟨d, hud, hd⟩, hn⟩ := tyOf_false ht
        refine Res.val R ?_ (e2 u (List.mem_of_getElem? hu'))
        rw [e1]
        simp only [Instr.field, Sem.run_bind, run_underlying hu, Result.andThen_ok, hg, cv, asAgg, Sem.run_pure, run_part_cell hud hd hu']
      · cases he
  · cases he

theorem iad_ok (R : Rel P w0 ρ h w) (hF : FrR ρ h.length N fr a) {t e : TypeId} {i : TypeInfo} (ht : P.underlying t = some (.slice e)) (hi : P.info? e = some i) {x j : Operand} {y z : OD} (hx : compOD x = some y) (hj : compOD j = some z) {v : FV} {h' : LH} (he : opE fr h (.iad e i.size y z) = some (v, h')) :
    Res P w0 ρ h w (do pure (Next.value (← Instr.indexAt t (a.eval x) (a.eval j)))) v h' := by
  simp only [opE] at he
  split at he
  · rename_i q p o n k m hq hk
    obtain ⟨e1, e2⟩ := ods_sound hF hx hq
    obtain ⟨e3, _⟩ := ods_sound hF hj hk
    split at he
    · rename_i t' vs hc
      split at he
      · rename_i htt
        subst htt
        split at he
        · rename_i h0
          split at he
          · rename_i h1
            simp only [Option.some.injEq, Prod.mk.injEq] at he
            obtain ⟨rfl, rfl⟩ := he
            obtain ⟨q1, q2, q3, q4⟩ := R.cells hc
            rw [cellsOf_info hi] at q2
            simp only [wf] at e2
            refine Res.val R ?_ q4
            rw [e1, e3]
            have hb : 0 ≤ m ∧ m < (n : Int) := ⟨h0, h1⟩
            simp only [Instr.indexAt, Sem.run_bind, c0, asIntOf, Sem.run_pure, Result.andThen_ok, run_underlying ht]
            rw [adr_room (by omega), q2]
            simp only [hb, and_self, if_true, Sem.run_bind, run_sizeOf_ok hi, Result.andThen_ok, Sem.run_pure, Addr.add_mid, cv, c0]
            rw [Nat.add_mul, Nat.add_assoc]
          · cases he
        · cases he
      · cases he
    · cases he
  · cases he

theorem idx_ok (R : Rel P w0 ρ h w) (hF : FrR ρ h.length N fr a) {t : TypeId} (ht : P.underlying t = some .string) {x j : Operand} {y z : OD} (hx : compOD x = some y) (hj : compOD j = some z) {v : FV} {h' : LH} (he : opE fr h (.idx y z) = some (v, h')) :
    Res P w0 ρ h w (do pure (Next.value (← Instr.index t (a.eval x) (a.eval j)))) v h' := by
  simp only [opE] at he
  split at he
  · rename_i s k m hs hk
    obtain ⟨e1, e2⟩ := ods_sound hF hx hs
    obtain ⟨e3, _⟩ := ods_sound hF hj hk
    split at he
    · rename_i h0
      split at he
      · rename_i b hb
        simp only [Option.some.injEq, Prod.mk.injEq] at he
        obtain ⟨rfl, rfl⟩ := he
        refine Res.val R ?_ trivial
        rw [e1, e3]
        have hb' : s[m.toNat]? = some b := by
          rw [← hb]
          have hlt := (List.getElem?_eq_some_iff.1 hb).1
          have hlt' : m.toNat < s.size := by simpa using hlt
          rw [getElem?_pos s m.toNat hlt', List.getElem?_eq_getElem hlt]
          rfl
        simp only [Instr.index, Sem.run_bind, c0, asIntOf, Sem.run_pure, Result.andThen_ok, run_underlying ht, h0, if_true, hb']
        rfl
      · cases he
    · cases he
  · cases he

theorem ext_ok (R : Rel P w0 ρ h w) (hF : FrR ρ h.length N fr a) {i : Nat} {x : Operand} {y : OD} (hx : compOD x = some y) {v : FV} {h' : LH} (he : opE fr h (.ext y i) = some (v, h')) :
    Res P w0 ρ h w (do pure (Next.value (← Instr.extract (a.eval x) i))) v h' := by
  simp only [opE] at he
  split at he
  · rename_i l hl
    obtain ⟨e1, e2⟩ := od_sound hF hx hl
    split at he
    · rename_i u hu
      simp only [Option.some.injEq, Prod.mk.injEq] at he
      obtain ⟨rfl, rfl⟩ := he
      have hw1 := e2 u (List.mem_of_getElem? hu)
      refine Res.val R ?_ (wfV_of_wf1 hw1)
      rw [e1, cv_of_wf1 hw1]
      simp [Instr.extract, cv, hu]
    · cases he
  · cases he

theorem len_ok (R : Rel P w0 ρ h w) (hF : FrR ρ h.length N fr a) {t ty e : TypeId} {ts : Array TypeId} (hts : ts[0]? = some t) (ht : P.underlying t = some (.slice e)) {x : Operand} {y : OD} (hx : compOD x = some y) {v : FV} {h' : LH} (he : opE fr h (.len y) = some (v, h')) :
    Res P w0 ρ h w (do pure (Next.value (← Builtin.len_ ts ty #[a.eval x]))) v h' := by
  simp only [opE] at he
  split at he
  · rename_i u hu
    obtain ⟨n, hn, hq⟩ := Option.map_eq_some_iff.1 he
    obtain ⟨rfl, rfl⟩ := Prod.mk.inj hq
    obtain ⟨e1, e2⟩ := ods_sound hF hx hu
    refine Res.val R ?_ trivial
    rw [e1]
    cases u <;> simp only [lenE, Option.some.injEq] at hn <;> first
      | (cases hn; done)
      | (subst hn; simp [Builtin.len_, hts, run_underlying ht, c0, goInt, cv])
  · cases he

theorem slen_ok (R : Rel P w0 ρ h w) (hF : FrR ρ h.length N fr a) {t ty : TypeId} {ts : Array TypeId} (hts : ts[0]? = some t) (ht : P.underlying t = some .string) {x : Operand} {y : OD} (hx : compOD x = some y) {v : FV} {h' : LH} (he : opE fr h (.slen y) = some (v, h')) :
    Res P w0 ρ h w (do pure (Next.value (← Builtin.len_ ts ty #[a.eval x]))) v h' := by
  simp only [opE] at he
  split at he
  · rename_i s hs
    simp only [Option.some.injEq, Prod.mk.injEq] at he
    obtain ⟨rfl, rfl⟩ := he
    obtain ⟨e1, e2⟩ := ods_sound hF hx hs
    refine Res.val R ?_ trivial
    rw [e1]
    simp [Builtin.len_, hts, run_underlying ht, c0, goInt, cv]
  · cases he

/-- Cells written through a slice. -/
theorem storeCells_ok (R : Rel P w0 ρ h w) {i t : Nat} {vs l : List SV} {o : Nat} (hi : h[i]? = some (.own t vs)) (hl : o + l.length ≤ vs.length) (hw : ∀ v ∈ l, wf ρ h.length v) :
    (storeCells ⟨(ρ i).blk, (ρ i).base + o, none⟩ (l.map (c0 ρ))).run P w = .ok () (w.setCells (ρ i).blk ((ρ i).base + o) (l.map (c0 ρ))) := by
  obtain ⟨b1, b2, b3, b4, b5, b6, b7⟩ := R.obj i _ hi
  have := run_storeCells_cells (P := P) (ρ i).blk ((ρ i).base + o) (l.map (c0 ρ)) 0 w
    (fun j hj => by rw [List.length_map] at hj; rw [Nat.add_zero, Nat.add_assoc]; exact (b4 (o + j) (by omega)).1)
    (fun j hj => by rw [List.length_map] at hj; rw [Nat.add_zero, Nat.add_assoc]; exact (b4 (o + j) (by omega)).2) (one_map hw)
  simpa using this

theorem copy_ok (R : Rel P w0 ρ h w) (hF : FrR ρ h.length N fr a) {t tx e e' ty : TypeId} {i : TypeInfo} {ts : Array TypeId} (hts : ts[0]? = some t) (htx : ts[1]? = some tx) (ht : P.underlying t = some (.slice e)) (hk : P.underlying tx = some (.slice e')) (hi : P.info? e = some i)
    {x x' : Operand} {y y' : OD} (hx : compOD x = some y) (hx' : compOD x' = some y') {v : FV} {h' : LH} (he : opE fr h (.copy e i.size y y') = some (v, h')) :
    Res P w0 ρ h w (do pure (Next.value (← Builtin.copy_ ts ty #[a.eval x, a.eval x']))) v h' := by
  simp only [opE] at he
  split at he
  · rename_i j p o m u hj hu
    obtain ⟨e1, e2⟩ := ods_sound hF hx hj
    obtain ⟨e3, e4⟩ := ods_sound hF hx' hu
    split at he
    · rename_i t' vs n new hob hn hnew
      split at he
      · rename_i htt
        subst htt
        split at he
        · rename_i hle
          simp only [Option.some.injEq, Prod.mk.injEq] at he
          obtain ⟨rfl, rfl⟩ := he
          obtain ⟨hs, hwn, hln⟩ := elems_src (tx := tx) R hi hk e4 hn hnew
          obtain ⟨b1, b2, b3, b4, b5, b6, b7⟩ := R.obj j _ hob
          rw [cellsOf_info hi] at b3
          simp only [wf] at e2
          have hwt : ∀ q ∈ new.take (min n m * i.size), wf ρ h.length q := fun q hq => hwn q (List.mem_of_mem_take hq)
          have hlt : (new.take (min n m * i.size)).length = min n m * i.size := by
            rw [List.length_take, hln]
            have := Nat.mul_le_mul_right i.size (Nat.min_le_left n m)
            omega
          have hmm : min n m * i.size ≤ m * i.size := Nat.mul_le_mul_right i.size (Nat.min_le_right n m)
          rw [Nat.add_mul] at hle
          have hst := storeCells_ok R hob (o := o * i.size) (l := new.take (min n m * i.size)) (by rw [hlt]; omega) hwt
          refine ⟨_, ρ, _, run_v ?_, .inl rfl, R.store hob (o := o * i.size) (l := new.take (min n m * i.size)) (by rw [hlt]; omega) hwt, Ext.refl _ _, by rw [List.length_set]; exact Nat.le_refl _, trivial⟩
          rw [e1, e3]
          have hfirst : (Builtin.firstCells i.size (min n m) (c0 ρ u)).run P w = .ok ((new.take (min n m * i.size)).map (c0 ρ)).toArray w := by
            cases u <;> simp only [lenE, Option.some.injEq] at hn <;> first
              | (cases hn; done)
              | skip
            case nils =>
              subst hn
              simp only [elems, Option.some.injEq] at hnew
              subst hnew
              simp [Builtin.firstCells, c0]
            case sl0 q1 q2 q3 =>
              subst hn
              simp only [elems, Option.some.injEq] at hnew
              subst hnew
              simp only [c0]
              have := run_firstCells_some (P := P) w i.size 0 (adr (ρ q1) q2 q3) 0 0 [] (by simp) (by simp)
              simpa using this
            case sl q1 q2 q3 q4 =>
              subst hn
              simp only [c0]
              refine run_firstCells_some (P := P) w i.size (min q4 m) _ q4 _ _ (by rw [List.length_map, hlt]) ?_
              intro k c hc
              rcases Nat.eq_zero_or_pos q4 with h0 | hp
              · rw [h0] at hc; simp at hc
              · obtain ⟨q4', rfl⟩ : ∃ r, q4 = r + 1 := ⟨q4 - 1, by omega⟩
                simp only [elems] at hnew
                split at hnew
                · rename_i t2 vs2 hc2
                  split at hnew
                  · rename_i ht2
                    split at hnew
                    · rename_i hle2
                      obtain rfl := Option.some.inj hnew
                      subst ht2
                      obtain ⟨r1, r2, r3, r4⟩ := R.cells hc2
                      rw [cellsOf_info hi] at r2
                      simp only [wf] at e4
                      rw [adr_room (by omega), Addr.add_mid, r2]
                      rw [List.take_take, ← map_part] at hc
                      exact rangeAt_part r1 (q3 * i.size) _ k c hc
                    · cases hnew
                  · cases hnew
                · cases hnew
          have hlen : (Builtin.lenOf (c0 ρ u)).run P w = .ok n w := hs.len w
          have hst' : (storeCells (adr (ρ j) p o) ((new.take (min n m * i.size)).map (c0 ρ))).run P w = .ok () (w.setCells (ρ j).blk ((ρ j).base + o * i.size) ((new.take (min n m * i.size)).map (c0 ρ))) := by
            rcases Nat.eq_zero_or_pos m with hm | hm
            · have h0 : new.take (min n m * i.size) = [] := List.eq_nil_of_length_eq_zero (by rw [hlt, hm, Nat.min_zero, Nat.zero_mul])
              rw [h0]; rfl
            · rw [adr_room (by omega), b3]; exact hst
          rw [show c0 ρ (.sl j p o m) = .slice (some (adr (ρ j) p o)) m ((ρ j).cap - o) from rfl]
          simp only [Builtin.copy_, Sem.run_bind, run_underlying ht, Result.andThen_ok, hts, List.getElem?_toArray, List.getElem?_cons_zero, List.getElem?_cons_succ, run_sizeOf_ok hi, hlen]
          rw [show Nat.min n m = min n m from rfl, hfirst]
          simp only [Result.andThen_ok, hst', Sem.run_bind, Sem.run_pure]
          rfl
        · cases he
      · cases he
    · cases he
  · cases he

end
end Go.Proofs.YtiljgimcipdadaaGreatDoor.Ev
