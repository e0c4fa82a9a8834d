/- The operations on slices: append and its kin. -/
import Derived.Test.YtiljgimcipdadaaGreatDoorEvOps
set_option linter.unusedVariables false
set_option linter.unusedSimpArgs false
namespace Go.Proofs.YtiljgimcipdadaaGreatDoor.Ev
open Go Go.RowKit

variable {P : Program} {w0 : Base}
section
variable {ρ : Nat → Ph} {h : LH} {w : World} {N : Nat} {fr : Fr} {a : Act}

theorem adr_room {p : Ph} {q o : Nat} (h : o < p.cap) : adr p q o = ⟨p.blk, p.base + o * p.sz, none⟩ := by
  unfold adr; rw [if_neg (by omega)]

theorem grown_ge {w : World} {need old : Nat} {e : TypeId} : need ≤ grownCap w need old e := by
  simp [grownCap, Question.cut]

theorem cellsOf_info {e : TypeId} {i : TypeInfo} (hi : P.info? e = some i) : P.cellsOf e = i.size := by
  unfold Program.cellsOf; rw [hi]; rfl

/-- What is appended, or copied: its cells. -/
theorem elems_src (R : Rel P w0 ρ h w) {e e' : TypeId} {tx : TypeId} {i : TypeInfo} (hi : P.info? e = some i) (hk : P.underlying tx = some (.slice e')) {v : SV} {n : Nat} {new : List SV} (hv : wf ρ h.length v) (hl : lenE v = some n) (he : elems h e i.size v = some new) :
    Src P i.size tx (c0 ρ v) n (new.map (c0 ρ)) w ∧ (∀ u ∈ new, wf ρ h.length u) ∧ new.length = n * i.size := by
  cases v <;> simp only [lenE, Option.some.injEq] at hl <;> simp only [elems, Option.some.injEq] at he <;> first
    | (cases hl; done)
    | (cases he; done)
    | skip
  case nils =>
    subst hl; subst he
    exact ⟨Src.ofNil w hk 0, by simp, by simp⟩
  case sl0 j p o =>
    subst hl; subst he
    exact ⟨Src.ofSlice w hk _ 0 0 [] (by simp) (by simp) (by simp), by simp, by simp⟩
  case sl j p o m =>
    subst hl
    by_cases h0 : m = 0
    · subst h0
      simp only [elems, Option.some.injEq] at he
      subst he
      exact ⟨Src.ofSlice w hk _ 0 _ [] (by simp) (by simp) (by simp), by simp, by simp⟩
    · obtain ⟨m', rfl⟩ : ∃ m', m = m' + 1 := ⟨m - 1, by omega⟩
      simp only [elems] at he
      split at he
      · rename_i t' vs hc
        split at he
        · rename_i ht
          split at he
          · rename_i hle
            obtain rfl := Option.some.inj he
            subst ht
            obtain ⟨q1, q2, q3, q4⟩ := R.cells hc
            rw [cellsOf_info hi] at q2
            simp only [wf] at hv
            have hwn : ∀ u ∈ (vs.drop (o * i.size)).take ((m' + 1) * i.size), wf ρ h.length u := fun u hu => q3 u (List.mem_of_mem_drop (List.mem_of_mem_take hu))
            have hlen : ((vs.drop (o * i.size)).take ((m' + 1) * i.size)).length = (m' + 1) * i.size := by
              rw [Nat.add_mul] at hle
              rw [List.length_take, List.length_drop]; omega
            refine ⟨Src.ofSlice w hk _ _ _ _ (by rw [List.length_map, hlen]) ?_ (one_map hwn), hwn, hlen⟩
            intro j' u hu
            rw [adr_room (by omega), Addr.add_mid, q2]
            rw [← map_part] at hu
            exact rangeAt_part q1 (o * i.size) ((m' + 1) * i.size) j' u hu
          · cases he
        · cases he
      · cases he

theorem str_src {tx : TypeId} (hk : P.underlying tx = some .string) (s : ByteArray) (n : Nat) : Src P 1 tx (.string s) s.size ((strCells s).map (c0 ρ)) w ∧ (∀ u ∈ strCells s, wf ρ n u) ∧ (strCells s).length = s.size * 1 := by
  refine ⟨?_, ?_, by simp [strCells]⟩
  · have := Src.ofString (P := P) w hk s
    have e : (strCells s).map (c0 ρ) = byteCells s := by
      unfold strCells byteCells; rw [List.map_map]; rfl
    rw [e]; exact this
  · intro u hu
    obtain ⟨b, _, rfl⟩ := List.mem_map.1 hu
    trivial

theorem appE_ok (R : Rel P w0 ρ h w) {t tx ty e : TypeId} {i : TypeInfo} {z : Value} (ht : P.underlying t = some (.slice e)) (hi : P.info? e = some i) (hz : i.zero = some z) (hzs : z.cells.size = i.size) (h0 : 0 < i.size) (hy : 0 < i.bytes) {v : SV} (hv : wf ρ h.length v)
    {x : Value} {n : Nat} {new : List SV} (hs : Src P i.size tx x n (new.map (c0 ρ)) w) (hwn : ∀ u ∈ new, wf ρ h.length u) (hln : new.length = n * i.size) {out : FV} {h' : LH} (he : appE h e i.size i.bytes v n new = some (out, h')) :
    ∃ ρ' w', (Builtin.append_ #[t, tx] ty #[c0 ρ v, x]).run P w = .ok (cv ρ' out) w' ∧ Rel P w0 ρ' h' w' ∧ Ext h.length ρ ρ' ∧ h.length ≤ h'.length ∧ wfV ρ' h'.length out := by
  have hP := cellsOf_info hi
  unfold appE at he
  split at he
  · rename_i hn
    subst hn
    have hnew : new = [] := List.eq_nil_of_length_eq_zero (by omega)
    subst hnew
    cases v <;> simp only [Option.some.injEq, Prod.mk.injEq] at he <;> first
      | (cases he; done)
      | (obtain ⟨rfl, rfl⟩ := he
         refine ⟨ρ, w, run_append_nothing w t tx ty e i ht hi _ _ _ ?_ x hs, R, Ext.refl _ _, Nat.le_refl _, hv⟩
         first
           | exact Nat.le_refl _
           | (simp only [wf] at hv; omega))
  · rename_i hn
    have hsD : ∀ (w1 : World), True := fun _ => trivial
    cases v <;> simp only at he <;> first
      | (cases he; done)
      | skip
    case nils =>
      split at he
      · rename_i hle
        simp only [Option.some.injEq, Prod.mk.injEq] at he
        obtain ⟨rfl, rfl⟩ := he
        have h63 : n ≤ 140737488355328 := by
          have := Nat.mul_le_mul_left n hy
          omega
        have hrun := run_append_grow_src (P := P) w t tx ty e i z ht hi hz none 0 0 [] (by simpa using run_firstCells_none w.drew i.size 0 0 0) x n (new.map (c0 ρ)) hs (by omega) (by omega) (growslice_fits (by omega) (by simpa using hle))
        have hge : n ≤ grownCap w n 0 e := grown_ge
        simp only [Nat.zero_add, List.nil_append] at hrun
        refine ⟨upd ρ h.length ⟨w.heap.size, 0, P.cellsOf e, grownCap w n 0 e, undef⟩, _, ?_, R.drew.alloc e ((new.map (c0 ρ)).toArray ++ Builtin.zeroCells z.cells (grownCap w n 0 e - n)) new (grownCap w n 0 e) ?_ ?_ ?_ hwn, upd_ext _ _ _, by simp, ?_⟩
        · simp only [c0]; rw [hrun]
          simp [cv, c0, adr, upd_self, grownCap, Question.cut]
        · rw [hP]; simp only [Array.size_append, List.size_toArray, List.length_map, hln, size_zeroCells, hzs]
          rw [← Nat.add_mul]; congr 1; omega
        · rw [hP, hln]; exact Nat.mul_le_mul_right _ hge
        · intro j u hj
          have hlt : j < new.length := (List.getElem?_eq_some_iff.1 hj).1
          rw [Array.getElem?_append_left (by simpa using hlt)]
          simp [hj]
        · simp only [wfV, wf, upd_self, List.length_append, List.length_singleton]; omega
      · cases he
    case sl0 j p o =>
      split at he
      · rename_i hle
        simp only [Option.some.injEq, Prod.mk.injEq] at he
        obtain ⟨rfl, rfl⟩ := he
        have h63 : n ≤ 140737488355328 := by
          have := Nat.mul_le_mul_left n hy
          omega
        have hrun := run_append_grow_src (P := P) w t tx ty e i z ht hi hz (some (adr (ρ j) p o)) 0 0 [] (by simpa using run_firstCells_some (P := P) w.drew i.size 0 (adr (ρ j) p o) 0 0 [] (by simp) (by simp)) x n (new.map (c0 ρ)) hs (by omega) (by omega) (growslice_fits (by omega) (by simpa using hle))
        have hge : n ≤ grownCap w n 0 e := grown_ge
        simp only [Nat.zero_add, List.nil_append] at hrun
        refine ⟨upd ρ h.length ⟨w.heap.size, 0, P.cellsOf e, grownCap w n 0 e, undef⟩, _, ?_, R.drew.alloc e ((new.map (c0 ρ)).toArray ++ Builtin.zeroCells z.cells (grownCap w n 0 e - n)) new (grownCap w n 0 e) ?_ ?_ ?_ hwn, upd_ext _ _ _, by simp, ?_⟩
        · simp only [c0]; rw [hrun]
          simp [cv, c0, adr, upd_self, grownCap, Question.cut]
        · rw [hP]; simp only [Array.size_append, List.size_toArray, List.length_map, hln, size_zeroCells, hzs]
          rw [← Nat.add_mul]; congr 1; omega
        · rw [hP, hln]; exact Nat.mul_le_mul_right _ hge
        · intro j u hj
          have hlt : j < new.length := (List.getElem?_eq_some_iff.1 hj).1
          rw [Array.getElem?_append_left (by simpa using hlt)]
          simp [hj]
        · simp only [wfV, wf, upd_self, List.length_append, List.length_singleton]; omega
      · cases he
    case sl j p o m =>
      split at he
      · rename_i t' vs hj
        split at he
        · rename_i htt
          split at he
          · rename_i hom
            split at he
            · rename_i hle
              simp only [Option.some.injEq, Prod.mk.injEq] at he
              obtain ⟨rfl, rfl⟩ := he
              subst htt
              obtain ⟨b1, b2, b3, b4, b5, b6, b7⟩ := R.obj j _ hj
              rw [hP] at b3
              simp only [wf] at hv
              have h63 : m + n ≤ 140737488355328 := by
                have := Nat.mul_le_mul_left (m + n) hy
                omega
              rcases Nat.lt_or_ge ((ρ j).cap - o) (m + n) with hg | hroom
              · -- there is no room
                have hold : (Builtin.firstCells i.size m (.slice (some (adr (ρ j) p o)) m ((ρ j).cap - o))).run P w.drew = .ok (((vs.drop (o * i.size)).take (m * i.size)).map (c0 ρ)).toArray w.drew := by
                  refine run_firstCells_some (P := P) w.drew i.size m _ m _ _ ?_ ?_
                  · rw [List.length_map, List.length_take, List.length_drop]; rw [Nat.add_mul] at hom; omega
                  · intro k u hu
                    have hpos : 0 < m := by
                      rcases Nat.eq_zero_or_pos m with rfl | hp
                      · simp at hu
                      · exact hp
                    rw [adr_room (by omega), Addr.add_mid, b3]
                    rw [← map_part] at hu
                    exact rangeAt_part b5 (o * i.size) (m * i.size) k u hu
                have hrun := run_append_grow_src (P := P) w t tx ty _ i z ht hi hz (some (adr (ρ j) p o)) m ((ρ j).cap - o) _ hold x n (new.map (c0 ρ)) hs hg (by omega) (growslice_fits hg hle)
                have hge : m + n ≤ grownCap w (m + n) ((ρ j).cap - o) t' := grown_ge
                have hwo : ∀ u ∈ (vs.drop (o * i.size)).take (m * i.size) ++ new, wf ρ h.length u := by
                  intro u hu
                  rcases List.mem_append.1 hu with hu | hu
                  · exact b7 u (List.mem_of_mem_drop (List.mem_of_mem_take hu))
                  · exact hwn u hu
                have hlo : ((vs.drop (o * i.size)).take (m * i.size) ++ new).length = (m + n) * i.size := by
                  rw [List.length_append, List.length_take, List.length_drop, hln, Nat.add_mul]; rw [Nat.add_mul] at hom; omega
                have hk := R.drew.kill j
                have hkl : (h.set j LO.dead).length = h.length := List.length_set
                have hA := hk.alloc t' (((((vs.drop (o * i.size)).take (m * i.size)).map (c0 ρ) ++ new.map (c0 ρ)).toArray) ++ Builtin.zeroCells z.cells (grownCap w (m + n) ((ρ j).cap - o) t' - (m + n))) ((vs.drop (o * i.size)).take (m * i.size) ++ new) (grownCap w (m + n) ((ρ j).cap - o) t') ?_ ?_ ?_ (by rw [hkl]; exact hwo)
                rw [hkl] at hA
                refine ⟨_, _, ?_, hA, upd_ext _ _ _, by simp, ?_⟩
                · simp only [c0]; rw [hrun]
                  simp [cv, c0, adr, upd_self, grownCap, Question.cut]
                · simp only [wfV, wf, upd_self, List.length_append, List.length_singleton, hkl]; omega
                · rw [hP, Array.size_append, List.size_toArray, ← List.map_append, List.length_map, hlo, size_zeroCells, hzs, ← Nat.add_mul]; congr 1; omega
                · rw [hP, hlo]; exact Nat.mul_le_mul_right _ hge
                · intro k u hk'
                  have hlt := (List.getElem?_eq_some_iff.1 hk').1
                  rw [Array.getElem?_append_left (by rw [List.size_toArray, ← List.map_append, List.length_map]; exact hlt)]
                  rw [← List.map_append]
                  simp only [List.getElem?_toArray, List.getElem?_map, hk']; rfl
              · -- there is room
                have hrun := run_append_room_src (P := P) w t tx ty _ i ht hi (ρ j).blk ((ρ j).base + o * (ρ j).sz) m ((ρ j).cap - o) x n (new.map (c0 ρ)) hs hroom (fun k hk => by
                    rw [List.length_map, hln] at hk
                    have hmul : (o + m + n) * i.size ≤ (ρ j).cap * i.size := Nat.mul_le_mul_right _ (by omega)
                    rw [Nat.add_mul, Nat.add_mul] at hmul
                    have := (b4 (o * i.size + m * i.size + k) (by rw [b3]; omega)).1
                    rw [b3, show (ρ j).base + o * i.size + m * i.size + k = (ρ j).base + (o * i.size + m * i.size + k) by omega]; exact this)
                  (fun k hk => by
                    rw [List.length_map, hln] at hk
                    have hmul : (o + m + n) * i.size ≤ (ρ j).cap * i.size := Nat.mul_le_mul_right _ (by omega)
                    rw [Nat.add_mul, Nat.add_mul] at hmul
                    have := (b4 (o * i.size + m * i.size + k) (by rw [b3]; omega)).2
                    rw [b3, show (ρ j).base + o * i.size + m * i.size + k = (ρ j).base + (o * i.size + m * i.size + k) by omega]; exact this)
                have hA := R.inplace (i := j) (m := m) (n := n) (o := o) (new := new) hj (by rw [b3]; exact hom) (by rw [b3]; exact hln) (by omega) hwn
                rw [b3] at hA hrun
                refine ⟨_, _, ?_, hA, upd_ext _ _ _, by simp, ?_⟩
                · simp only [c0]
                  rw [adr_room (by omega), b3, hrun]
                  simp [cv, c0, adr, upd_self]
                · simp only [wfV, wf, upd_self, List.length_append, List.length_singleton, List.length_set]; omega
            · cases he
          · cases he
        · cases he
      · cases he

end
end Go.Proofs.YtiljgimcipdadaaGreatDoor.Ev
