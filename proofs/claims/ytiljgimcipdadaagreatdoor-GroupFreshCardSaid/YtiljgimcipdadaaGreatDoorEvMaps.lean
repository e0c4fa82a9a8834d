/- Maps of cells, strings that are gone through, a string's bytes. -/
import Derived.Test.YtiljgimcipdadaaGreatDoorEvOps4
import Derived.MapKept
import Derived.Laws.RangeString
import Derived.Lib.ConvBytes
set_option linter.unusedVariables false
set_option linter.unusedSimpArgs false
namespace Go.Proofs.YtiljgimcipdadaaGreatDoor.Ev
open Go Go.RowKit

variable {P : Program} {w0 : Base}
section
variable {ρ : Nat → Ph} {h : LH} {w : World} {N : Nat} {fr : Fr} {a : Act}

theorem rng_ok (R : Rel P w0 ρ h w) (hF : FrR ρ h.length N fr a) {t : TypeId} (ht : P.underlying t = some .string) {x : Operand} {y : OD} (hx : compOD x = some y) {v : FV} {h' : LH} (he : opE fr h (.rng y) = some (v, h')) :
    Res P w0 ρ h w (do pure (Next.value (← Instr.range t (a.eval x)))) v h' := by
  simp only [opE] at he
  split at he
  · rename_i s hs
    simp only [Option.some.injEq, Prod.mk.injEq] at he
    obtain ⟨rfl, rfl⟩ := he
    obtain ⟨e1, e2⟩ := ods_sound hF hx hs
    refine ⟨_, upd ρ h.length ⟨w.heap.size, 0, 1, 1, undef⟩, w.iter s 0, run_v (by rw [e1]; exact run_range_string w t s ht), .inl ?_, ?_, upd_ext _ _ _, by simp, by simp [wfV, wf]⟩
    · simp [cv, c0, upd_self]
    · refine R.newBlk _ _ rfl ((Below.refl _ _).alloc R.size _) ?_ (fun k hk => Below.heap_alloc _ _ _ hk) ?_
      · show (w.heap.push _).size = _; rw [Array.size_push]
      · exact ⟨R.size, by show _ < (w.heap.push _).size; rw [Array.size_push]; exact Nat.lt_succ_self _, rfl, World.iter_heap w s 0⟩
  · cases he

theorem run_setObj_any {o : Obj} {s : ByteArray} {p r : Nat} (hb : w.heap[r]? = some (.stringIter s p)) : (setObj r o).run P w = .ok () { w with heap := w.heap.setIfInBounds r o } := by
  simp [setObj, Sem.run, hb]
theorem run_getObj_any {s : ByteArray} {p r : Nat} (hb : w.heap[r]? = some (.stringIter s p)) : (getObj r).run P w = .ok (.stringIter s p) w := by
  simp [getObj, Sem.run, hb]

theorem below_set {B b : Nat} (hB : B ≤ b) (o : Obj) : Below B w { w with heap := w.heap.setIfInBounds b o } :=
  ⟨rfl, rfl, rfl, by simp, fun k hk => by simp only; rw [Array.getElem?_setIfInBounds_ne (by omega)]⟩

/-- A block is set. -/
theorem Rel.setObj (R : Rel P w0 ρ h w) {i : Nat} {o o' : LO} (hi : h[i]? = some o) (hh : o.holds = true) (hlow : w0.B ≤ (ρ i).blk) (hh' : o'.holds = true) (b : Obj)
    (ho : ObjR P w0.B ρ h.length (ρ i) { w with heap := w.heap.setIfInBounds (ρ i).blk b } o') : Rel P w0 ρ (h.set i o') { w with heap := w.heap.setIfInBounds (ρ i).blk b } :=
  R.setBlk hi hh (below_set hlow b) (by simp) (fun k hk => by simp only; rw [Array.getElem?_setIfInBounds_ne (fun e => hk e.symm)]) hlow hh' ho

theorem nxt_ok (R : Rel P w0 ρ h w) (hF : FrR ρ h.length N fr a) {ty : TypeId} {x : Operand} {y : OD} (hx : compOD x = some y) {v : FV} {h' : LH} (he : opE fr h (.nxt y) = some (v, h')) :
    Res P w0 ρ h w (do pure (Next.value (← Instr.next (a.eval x) true ty))) v h' := by
  simp only [opE] at he
  split at he
  · rename_i i hs
    obtain ⟨e1, e2⟩ := ods_sound hF hx hs
    split at he
    · rename_i s pos hi
      obtain ⟨b1, b2, b3, b4⟩ := R.obj i _ hi
      have ec : c0 ρ (.ptr i 0) = .pointer (some ⟨(ρ i).blk, 0, none⟩) := by simp [c0, b3]
      split at he
      · rename_i b hb
        split at he
        · rename_i ha
          simp only [Option.some.injEq, Prod.mk.injEq] at he
          obtain ⟨rfl, rfl⟩ := he
          have hp : pos < s.size := by
            have := (List.getElem?_eq_some_iff.1 hb).1
            simpa using this
          have hb' : s[pos]'hp = b := by
            have := (List.getElem?_eq_some_iff.1 hb).2
            simp only [Array.getElem_toList] at this
            exact this
          refine ⟨_, ρ, { w with heap := w.heap.setIfInBounds (ρ i).blk (.stringIter s (pos + 1)) }, run_v ?_, .inl rfl, ?_, Ext.refl _ _, by simp, fun u hu => ?_⟩
          · rw [e1, ec]
            simp only [Instr.next, Sem.run_bind, run_getObj_any b4, Result.andThen_ok, hp, if_true, decode_ascii s pos hp (by rw [hb']; exact ha), run_setObj_any b4, Sem.run_pure, hb']
            rfl
          · refine R.setObj hi rfl b1 rfl _ ⟨b1, by simp; exact b2, b3, ?_⟩
            simp only [Array.getElem?_setIfInBounds_self_of_lt b2]
          · simp only [List.mem_cons, List.not_mem_nil, or_false] at hu
            rcases hu with rfl | rfl | rfl <;> trivial
        · cases he
      · rename_i hb
        simp only [Option.some.injEq, Prod.mk.injEq] at he
        obtain ⟨rfl, rfl⟩ := he
        have hp : ¬ pos < s.size := by
          have := List.getElem?_eq_none_iff.1 hb
          simp at this
          omega
        refine Res.val R ?_ (fun u hu => by
          simp only [List.mem_cons, List.not_mem_nil, or_false] at hu
          subst hu; trivial)
        rw [e1, ec]
        simp only [Instr.next, Sem.run_bind, run_getObj_any b4, Result.andThen_ok, hp, if_false, Sem.run_pure]
        rfl
    · cases he
  · cases he

theorem mkm_ok (R : Rel P w0 ρ h w) {t : TypeId} {v : FV} {h' : LH} (he : opE fr h .mkm = some (v, h')) : Res P w0 ρ h w (do pure (Next.value (← Instr.makeMap t none))) v h' := by
  simp only [opE, Option.some.injEq, Prod.mk.injEq] at he
  obtain ⟨rfl, rfl⟩ := he
  refine ⟨_, upd ρ h.length ⟨w.heap.size, 0, 1, 1, undef⟩, w.alloc (.map #[] 0), run_v (x := .map (some w.heap.size)) (by simp [Instr.makeMap]), .inl ?_, ?_, upd_ext _ _ _, by simp, by simp [wfV, wf]⟩
  · simp [cv, c0, upd_self]
  · refine R.newBlk _ _ rfl ((Below.refl _ _).alloc R.size _) ?_ (fun k hk => Below.heap_alloc _ _ _ hk) ?_
    · show (w.heap.push _).size = _; rw [Array.size_push]
    · refine ⟨R.size, by show _ < (w.heap.push _).size; rw [Array.size_push]; exact Nat.lt_succ_self _, ⟨#[], ?_, rfl, rfl⟩, fun x hx => by cases hx⟩
      show (w.heap.push (Obj.map #[] 0))[w.heap.size]? = _
      simp

/-! ### Keys -/
theorem mapOf_ok {t e : TypeId} {q : Bool} (hm : mapOf P t = some (q, e)) : ∃ k d, P.underlying t = some (.map k e) ∧ P.underlying k = some d ∧ ((q = false ∧ ∃ i, d = .int i) ∨ (q = true ∧ d = .string)) := by
  unfold mapOf at hm
  split at hm
  · rename_i k e' ht
    split at hm
    · rename_i i hk
      obtain ⟨rfl, rfl⟩ := Prod.mk.inj (Option.some.inj hm)
      exact ⟨k, _, ht, hk, .inl ⟨rfl, i, rfl⟩⟩
    · rename_i hk
      obtain ⟨rfl, rfl⟩ := Prod.mk.inj (Option.some.inj hm)
      exact ⟨k, _, ht, hk, .inr ⟨rfl, rfl⟩⟩
    · cases hm
  · cases hm

theorem check_key {k : TypeId} {d : TypeDesc} {q : Bool} (hk : P.underlying k = some d) (hq : (q = false ∧ ∃ i, d = .int i) ∨ (q = true ∧ d = .string)) {u : SV} (hu : isKey q u = true) (em : Bool) :
    (Instr.checkKey em 10000 k (c0 ρ u)).run P w = .ok () w := by
  rw [show (10000 : Nat) = 9999 + 1 from rfl]
  unfold Instr.checkKey
  simp only [Sem.run_bind, run_underlying hk, Result.andThen_ok]
  rcases hq with ⟨rfl, i, rfl⟩ | ⟨rfl, rfl⟩ <;> cases u <;> first
    | rfl
    | cases hu

theorem same_now {d : TypeDesc} {q : Bool} (hq : (q = false ∧ ∃ i, d = .int i) ∨ (q = true ∧ d = .string)) {u v : SV} (hu : isKey q u = true) {b : Bool} (hb : keyEq u v = some b) : Instr.sameNow d (c0 ρ u) (c0 ρ v) = some b := by
  rcases hq with ⟨rfl, i, rfl⟩ | ⟨rfl, rfl⟩ <;> cases u <;> (try (cases hu; done)) <;> cases v <;> simp only [keyEq] at hb <;> (try (cases hb; done)) <;> simp only [c0, Instr.sameNow] <;> exact hb

theorem find_get {d : TypeDesc} {q : Bool} (hq : (q = false ∧ ∃ i, d = .int i) ∨ (q = true ∧ d = .string)) {u : SV} (hu : isKey q u = true) : ∀ (es : List (SV × SV)) (ms : List MapEntry) (i : Nat) (r : Option SV), (ms.map fun e => (e.key, e.val)) = (es.map fun x => (c0 ρ x.1, c0 ρ x.2)) → getM u es = some r →
    ∃ o, Instr.findNow d (c0 ρ u) ms i = some o ∧ o.map (·.2) = r.map (c0 ρ)
  | [], [], i, r, _, hg => by
    obtain rfl := Option.some.inj hg
    exact ⟨none, rfl, rfl⟩
  | [], _ :: _, _, _, hm, _ => by cases hm
  | _ :: _, [], _, _, hm, _ => by cases hm
  | e :: es, m :: ms, i, r, hm, hg => by
    simp only [List.map_cons, List.cons.injEq, Prod.mk.injEq] at hm
    obtain ⟨⟨m1, m2⟩, m3⟩ := hm
    simp only [getM] at hg
    split at hg
    · rename_i hk
      obtain rfl := Option.some.inj hg
      refine ⟨some (i, m.val), ?_, by simp [m2]⟩
      simp only [Instr.findNow, m1, same_now hq hu hk]
    · rename_i hk
      obtain ⟨o, h1, h2⟩ := find_get hq hu es ms (i + 1) r m3 hg
      refine ⟨o, ?_, h2⟩
      simp only [Instr.findNow, m1, same_now hq hu hk]
      exact h1
    · cases hg

theorem ba_beq (a b : ByteArray) : (a == b) = decide (a = b) := by
  show ByteArray.beq a b = _
  unfold ByteArray.beq
  obtain ⟨a⟩ := a
  obtain ⟨b⟩ := b
  rw [Bool.eq_iff_iff]
  simp

theorem key_same {q : Bool} {u v : SV} (hu : isKey q u = true) (hb : keyEq u v = some true) : Instr.sameBits 10000 (c0 ρ v) (c0 ρ u) = true := by
  cases u <;> (try (cases hu; done)) <;> cases v <;> simp only [keyEq] at hb <;> (try (cases hb; done))
  · split at hb
    · rename_i hk
      simp only [Option.some.injEq, beq_iff_eq] at hb
      subst hk; subst hb
      simp [c0, Instr.sameBits]
    · cases hb
  · simp only [Option.some.injEq, ba_beq, decide_eq_true_eq] at hb
    subst hb
    simp [c0, Instr.sameBits, ba_beq]

theorem find_put {d : TypeDesc} {q : Bool} (hq : (q = false ∧ ∃ i, d = .int i) ∨ (q = true ∧ d = .string)) {u v : SV} (hu : isKey q u = true) : ∀ (es : List (SV × SV)) (ms : List MapEntry) (i : Nat) (es' : List (SV × SV)), (ms.map fun e => (e.key, e.val)) = (es.map fun x => (c0 ρ x.1, c0 ρ x.2)) → putM u v es = some es' →
    ∃ o, Instr.findNow d (c0 ρ u) ms i = some o ∧ ((o = none ∧ es' = es ++ [(u, v)]) ∨ ∃ j y, o = some (i + j, y) ∧ ∃ m, ms[j]? = some m ∧ Instr.sameBits 10000 m.key (c0 ρ u) = true ∧ es' = es.set j (u, v))
  | [], [], i, es', _, hg => by
    obtain rfl := Option.some.inj hg
    exact ⟨none, rfl, .inl ⟨rfl, rfl⟩⟩
  | [], _ :: _, _, _, hm, _ => by cases hm
  | _ :: _, [], _, _, hm, _ => by cases hm
  | e :: es, m :: ms, i, es', hm, hg => by
    simp only [List.map_cons, List.cons.injEq, Prod.mk.injEq] at hm
    obtain ⟨⟨m1, m2⟩, m3⟩ := hm
    simp only [putM] at hg
    split at hg
    · rename_i hk
      obtain rfl := Option.some.inj hg
      refine ⟨some (i, m.val), ?_, .inr ⟨0, m.val, rfl, m, rfl, ?_, rfl⟩⟩
      · simp only [Instr.findNow, m1, same_now hq hu hk]
      · rw [m1]; exact key_same hu hk
    · rename_i hk
      obtain ⟨es1, hg1, rfl⟩ := Option.map_eq_some_iff.1 hg
      obtain ⟨o, h1, h2⟩ := find_put hq hu es ms (i + 1) es1 m3 hg1
      refine ⟨o, ?_, ?_⟩
      · simp only [Instr.findNow, m1, same_now hq hu hk]
        exact h1
      · rcases h2 with ⟨q0, q1⟩ | ⟨j, y, q0, m', q1, q2, q3⟩
        · exact .inl ⟨q0, by rw [q1]; rfl⟩
        · exact .inr ⟨j + 1, y, by rw [q0, show i + 1 + j = i + (j + 1) by omega], m', q1, q2, by rw [q3]; rfl⟩
    · cases hg

theorem put_mem {u v : SV} : ∀ {es es' : List (SV × SV)}, putM u v es = some es' → ∀ x ∈ es', x ∈ es ∨ x = (u, v)
  | [], es', hg, x, hx => by
    simp only [putM, Option.some.injEq] at hg
    subst hg
    exact .inr (List.mem_singleton.1 hx)
  | e :: es, es', hg, x, hx => by
    simp only [putM] at hg
    split at hg
    · simp only [Option.some.injEq] at hg
      subst hg
      rcases List.mem_cons.1 hx with rfl | hx
      · exact .inr rfl
      · exact .inl (List.mem_cons_of_mem _ hx)
    · obtain ⟨es1, hg1, rfl⟩ := Option.map_eq_some_iff.1 hg
      rcases List.mem_cons.1 hx with rfl | hx
      · exact .inl List.mem_cons_self
      · exact (put_mem hg1 x hx).imp (List.mem_cons_of_mem _) id
    · cases hg

theorem get_mem {u : SV} : ∀ {es : List (SV × SV)} {v : SV}, getM u es = some (some v) → ∃ x ∈ es, x.2 = v
  | [], v, hg => by cases hg
  | e :: es, v, hg => by
    simp only [getM] at hg
    split at hg
    · simp only [Option.some.injEq] at hg
      exact ⟨e, List.mem_cons_self, hg⟩
    · obtain ⟨x, h1, h2⟩ := get_mem hg
      exact ⟨x, List.mem_cons_of_mem _ h1, h2⟩
    · cases hg

theorem mput_ok (R : Rel P w0 ρ h w) (hF : FrR ρ h.length N fr a) {t e : TypeId} {q : Bool} (ht : mapOf P t = some (q, e)) {m k x : Operand} {m' k' y : OD} (hm : compOD m = some m') (hk : compOD k = some k') (hx : compOD x = some y) {v : FV} {h' : LH} (he : opE fr h (.mput q m' k' y) = some (v, h')) :
    Res P w0 ρ h w (do Instr.mapUpdate t (a.eval m) (a.eval k) (a.eval x); pure Next.skip) v h' := by
  simp only [opE] at he
  split at he
  · rename_i i u z h1 h2 h3
    split at he
    · rename_i es hi
      split at he
      · rename_i hk'
        rw [Bool.and_eq_true] at hk'
        obtain ⟨es', hp, hq⟩ := Option.map_eq_some_iff.1 he
        obtain ⟨rfl, rfl⟩ := Prod.mk.inj hq
        obtain ⟨e1, _⟩ := ods_sound hF hm h1
        obtain ⟨e2, _⟩ := ods_sound hF hk h2
        obtain ⟨e3, _⟩ := ods_sound hF hx h3
        obtain ⟨b1, b2, ⟨ms, b3, b4, b6⟩, b5⟩ := R.obj i _ hi
        obtain ⟨kt, d, t1, t2, t3⟩ := mapOf_ok ht
        have emp : c0 ρ (.mp i) = .map (some (ρ i).blk) := rfl
        obtain ⟨o, f1, f2⟩ := find_put (ρ := ρ) t3 hk'.1 es ms.toList 0 es' b4 hp
        have hck := check_key (ρ := ρ) (w := w) t2 t3 hk'.1 false
        have hfk : (Instr.findKey kt (c0 ρ u) ms.toList).run P w = .ok o w := by
          simp only [Instr.findKey, Sem.run_bind, run_underlying t2, Result.andThen_ok, f1, Sem.run_pure]
        have hmem : ∀ x ∈ es', (∃ q, isKey q x.1 = true) ∧ nlS x.2 = true := fun x hx => (put_mem hp x hx).elim (b5 x) fun e => by subst e; exact ⟨⟨q, hk'.1⟩, hk'.2⟩
        have fin : ∀ (ms' : Array MapEntry), (ms'.toList.map fun e => (e.key, e.val)) = (es'.map fun x => (c0 ρ x.1, c0 ρ x.2)) → ms'.toList.map (·.born) = List.range ms'.size →
            (Instr.mapUpdate t (c0 ρ (.mp i)) (c0 ρ u) (c0 ρ z)).run P w = .ok () { w with heap := w.heap.setIfInBounds (ρ i).blk (.map ms' ms'.size) } →
            Res P w0 ρ h w (do Instr.mapUpdate t (a.eval m) (a.eval k) (a.eval x); pure Next.skip) (.tup []) (h.set i (.map es')) := by
          intro ms' hl hbn hr
          refine ⟨.skip, ρ, _, ?_, .inr ⟨rfl, rfl⟩, R.setObj hi rfl b1 rfl (.map ms' ms'.size) ⟨b1, by simp; exact b2, ⟨ms', by simp only [Array.getElem?_setIfInBounds_self_of_lt b2], hl, hbn⟩, hmem⟩, Ext.refl _ _, by rw [List.length_set]; exact Nat.le_refl _, fun v hv => by cases hv⟩
          rw [e1, e2, e3]
          simp only [Sem.run_bind, hr, Result.andThen_ok, Sem.run_pure]
        rcases f2 with ⟨rfl, rfl⟩ | ⟨j, y', rfl, m1, q1, q2, rfl⟩
        · refine fin (ms.push { key := c0 ρ u, val := c0 ρ z, born := ms.size }) (by simp [b4]) (by simp [b6, List.range_succ]) ?_
          rw [Array.size_push]
          simp only [Instr.mapUpdate, Sem.run_bind, run_underlying t1, Result.andThen_ok, emp, MapKept.run_getObj_map b3, hck, hfk, MapKept.run_setObj_map _ b3]
        · have hget : ms[j]? = some m1 := by rw [← q1]; simp
          refine fin (ms.modify j fun e => { e with key := c0 ρ u, val := c0 ρ z }) ?_ ?_ ?_
          · have hj : j < ms.size := (Array.getElem?_eq_some_iff.1 hget).1
            rw [Array.toList_modify, List.map_set, ← b4]
            apply List.ext_getElem?
            intro n
            rw [List.getElem?_map, List.getElem?_modify]
            by_cases hn : j = n
            · subst hn
              simp [hj]
            · rw [List.getElem?_set_ne hn, List.getElem?_map]
              simp [hn]
          · rw [Array.size_modify, ← b6, Array.toList_modify]
            apply List.ext_getElem?
            intro n
            rw [List.getElem?_map, List.getElem?_modify, List.getElem?_map]
            by_cases hn : j = n
            · subst hn; cases ms.toList[j]? <;> simp
            · simp [hn]
          · rw [Array.size_modify]
            have hstay : (Instr.keyThatStays m1.key (c0 ρ u)).run P w = .ok (c0 ρ u) w := by
              unfold Instr.keyThatStays
              rw [if_pos q2]; rfl
            simp only [Nat.zero_add] at hfk
            simp only [Instr.mapUpdate, Sem.run_bind, run_underlying t1, Result.andThen_ok, emp, MapKept.run_getObj_map b3, hck, hfk, hget, Option.map_some, Option.getD_some, hstay, MapKept.run_setObj_map _ b3]
      · cases he
    · cases he
  · cases he

theorem mget_ok (R : Rel P w0 ρ h w) (hF : FrR ρ h.length N fr a) {t e : TypeId} {q ok : Bool} {z : SV} (ht : mapOf P t = some (q, e)) (hz : zeroS P e = some z) (hzn : nlS z = true) {m k : Operand} {m' k' : OD} (hm : compOD m = some m') (hk : compOD k = some k') {v : FV} {h' : LH} (he : opE fr h (.mget q ok z m' k') = some (v, h')) :
    Res P w0 ρ h w (do pure (Next.value (← Instr.lookup t (a.eval m) (a.eval k) ok))) v h' := by
  simp only [opE] at he
  split at he
  · rename_i i u h1 h2
    split at he
    · rename_i es hi
      split at he
      · rename_i hk'
        split at he
        · rename_i r hg
          obtain ⟨rfl, rfl⟩ := Prod.mk.inj (Option.some.inj he)
          obtain ⟨e1, _⟩ := ods_sound hF hm h1
          obtain ⟨e2, _⟩ := ods_sound hF hk h2
          obtain ⟨b1, b2, ⟨ms, b3, b4, b6⟩, b5⟩ := R.obj i _ hi
          obtain ⟨kt, d, t1, t2, t3⟩ := mapOf_ok ht
          have emp : c0 ρ (.mp i) = .map (some (ρ i).blk) := rfl
          obtain ⟨o, f1, f2⟩ := find_get (ρ := ρ) t3 hk' es ms.toList 0 r b4 hg
          have hck := check_key (ρ := ρ) (w := w) t2 t3 hk' ms.isEmpty
          have hfk : (Instr.findKey kt (c0 ρ u) ms.toList).run P w = .ok o w := by
            simp only [Instr.findKey, Sem.run_bind, run_underlying t2, Result.andThen_ok, f1, Sem.run_pure]
          have hzv : (zeroValue e).run P w = .ok (c0 ρ z) w := by
            unfold zeroS at hz
            obtain ⟨u0, hu0, hz⟩ := Option.bind_eq_some_iff.1 hz
            obtain ⟨i0, hi0, hu0⟩ := Option.bind_eq_some_iff.1 hu0
            rw [absS_c0 hz]
            exact run_zeroValue_ok hi0 hu0
          have hnl : nlS (r.getD z) = true := by
            cases r with
            | none => exact hzn
            | some v =>
              obtain ⟨x, x1, rfl⟩ := get_mem hg
              exact (b5 x x1).2
          have hrun : (Instr.lookup t (c0 ρ (.mp i)) (c0 ρ u) ok).run P w = .ok (if ok then .tuple #[c0 ρ (r.getD z), .bool r.isSome] else c0 ρ (r.getD z)) w := by
            cases r with
            | none =>
              simp only [Option.map_none, Option.map_eq_none_iff] at f2
              subst f2
              simp only [Instr.lookup, Sem.run_bind, run_underlying t1, Result.andThen_ok, emp, MapKept.run_getObj_map b3, Sem.run_pure, hck, hfk, hzv, Option.getD_none, Option.isSome_none]
            | some v =>
              obtain ⟨⟨n, y⟩, rfl, hy⟩ := Option.map_eq_some_iff.1 f2
              simp only at hy
              subst hy
              simp only [Instr.lookup, Sem.run_bind, run_underlying t1, Result.andThen_ok, emp, MapKept.run_getObj_map b3, Sem.run_pure, hck, hfk, Option.getD_some, Option.isSome_some]
          refine Res.val R ?_ ?_
          · rw [e1, e2, hrun]
            cases ok <;> rfl
          · cases ok
            · exact nl_wf hnl
            · intro x hx
              simp only [if_true, List.mem_cons, List.not_mem_nil, or_false] at hx
              rcases hx with rfl | rfl
              · exact nl_wf hnl
              · trivial
        · cases he
      · cases he
    · cases he
  · cases he

theorem mlen_ok (R : Rel P w0 ρ h w) (hF : FrR ρ h.length N fr a) {ts : Array TypeId} {ty t k e : TypeId} (hts : ts[0]? = some t) (ht : P.underlying t = some (.map k e)) {x : Operand} {y : OD} (hx : compOD x = some y) {v : FV} {h' : LH} (he : opE fr h (.mlen y) = some (v, h')) :
    Res P w0 ρ h w (do pure (Next.value (← Builtin.len_ ts ty #[a.eval x]))) v h' := by
  simp only [opE] at he
  split at he
  · rename_i i hs
    split at he
    · rename_i es hi
      obtain ⟨rfl, rfl⟩ := Prod.mk.inj (Option.some.inj he)
      obtain ⟨e1, _⟩ := ods_sound hF hx hs
      obtain ⟨b1, b2, ⟨ms, b3, b4, b6⟩, b5⟩ := R.obj i _ hi
      refine Res.val R ?_ trivial
      have emp : c0 ρ (.mp i) = .map (some (ρ i).blk) := rfl
      have hl : ms.size = es.length := by
        have := congrArg List.length b4
        simpa using this
      rw [e1]
      simp only [Builtin.len_, hts, List.getElem?_toArray, List.getElem?_cons_zero, Sem.run_bind, run_underlying ht, Result.andThen_ok, emp, MapKept.run_getObj_map b3, Sem.run_pure, hl]
      rfl
    · cases he
  · cases he

theorem s2b_ok (R : Rel P w0 ρ h w) (hF : FrR ρ h.length N fr a) {src dst e : TypeId} {i : TypeInfo} (hs : P.underlying src = some .string) (hd : P.underlying dst = some (.slice e)) (he8 : P.underlying e = some (.int .u8)) (hi : P.info? e = some i) (h1 : i.size = 1)
    {x : Operand} {y : OD} (hx : compOD x = some y) {v : FV} {h' : LH} (he : opE fr h (.s2b e y) = some (v, h')) : Res P w0 ρ h w (do pure (Next.value (← convert src dst (a.eval x)))) v h' := by
  simp only [opE] at he
  split at he
  · rename_i s hsy
    obtain ⟨rfl, rfl⟩ := Prod.mk.inj (Option.some.inj he)
    obtain ⟨e1, _⟩ := ods_sound hF hx hsy
    have hP : P.cellsOf e = 1 := by unfold Program.cellsOf; rw [hi]; simp [h1]
    have hge : s.size ≤ grownCap w s.size 0 e := grown_ge
    have hcs : (Lib.bytesCells w e s).size = grownCap w s.size 0 e := by
      simp [Lib.bytesCells]; omega
    have hlen : (strCells s).length = s.size := by simp [strCells]
    refine ⟨_, upd ρ h.length ⟨w.heap.size, 0, 1, grownCap w s.size 0 e, undef⟩, Lib.bytesWorld w e s, run_v (by rw [e1]; exact Lib.run_convert_string_bytes w src dst e s hs hd he8), .inl ?_, ?_, upd_ext _ _ _, by simp, ?_⟩
    · simp [cv, c0, upd_self, adr]
    · refine R.newBlk _ _ rfl ⟨rfl, rfl, rfl, by rw [Lib.bytesWorld_size]; omega, fun k hk => Lib.bytesWorld_at_old w e s k (Nat.lt_of_lt_of_le hk R.size)⟩ (Lib.bytesWorld_size w e s) (fun k hk => Lib.bytesWorld_at_old w e s k hk) ?_
      refine ⟨R.size, by rw [Lib.bytesWorld_size]; exact Nat.lt_succ_self _, hP.symm, fun j hj => ?_, fun j v hv => ?_, by rw [hlen]; simp only; omega, fun v hv => ?_⟩
      · simp only [Nat.mul_one] at hj
        simp only [Nat.zero_add]
        refine ⟨?_, ?_⟩
        · simp only [World.cell?, Lib.bytesWorld_at_new]
          rw [Array.getElem?_eq_getElem (by rw [hcs]; exact hj)]; rfl
        · simp only [World.frozen?, Lib.bytesWorld_at_new, hcs]
          simp; omega
      · simp only [Nat.zero_add]
        rw [List.getElem?_map] at hv
        obtain ⟨u, hu, rfl⟩ := Option.map_eq_some_iff.1 hv
        have hj : j < s.size := by rw [← hlen]; exact (List.getElem?_eq_some_iff.1 hu).1
        rw [Lib.bytesWorld_cell w e s j hj]
        simp only [strCells, List.getElem?_map] at hu
        obtain ⟨b, hb, rfl⟩ := Option.map_eq_some_iff.1 hu
        simp [List.getD, hb, c0]
      · simp only [strCells] at hv
        obtain ⟨b, _, rfl⟩ := List.mem_map.1 hv
        trivial
    · simp only [wfV, wf, upd_self, List.length_append, List.length_singleton]
      omega
  · cases he
end
end Go.Proofs.YtiljgimcipdadaaGreatDoor.Ev
