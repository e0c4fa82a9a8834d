/- Loops over a map: whichever entry comes next. -/
import Derived.Test.YtiljgimcipdadaaGreatDoorEvLim
import Derived.Laws.IdiomRangeMap
set_option linter.unusedVariables false
set_option linter.unusedSimpArgs false
namespace Go.Proofs.YtiljgimcipdadaaGreatDoor.Ev
open Go Go.RowKit

variable {P : Program} {w0 : Base}
section
variable {ρ : Nat → Ph} {h : LH} {w : World} {N : Nat} {fr : Fr} {a : Act}

/-- A block that is no object's is set. -/
theorem Rel.setFree (R : Rel P w0 ρ h w) {r : Nat} (hB : w0.B ≤ r) (hF : ¬ w0.F r) (hfree : ∀ i o, h[i]? = some o → o.holds = true → (ρ i).blk ≠ r) (o : Obj) : Rel P w0 ρ h { w with heap := w.heap.setIfInBounds r o } := by
  have hheap : ∀ k, k ≠ r → ({ w with heap := w.heap.setIfInBounds r o } : World).heap[k]? = w.heap[k]? := fun k hk => by simp only; rw [Array.getElem?_setIfInBounds_ne (fun e => hk e.symm)]
  have hcell : ∀ (x : Addr), x.block ≠ r → ({ w with heap := w.heap.setIfInBounds r o } : World).cell? x = w.cell? x := fun x hx => by unfold World.cell?; rw [hheap _ hx]
  have hfr : ∀ (x : Addr), x.block ≠ r → ({ w with heap := w.heap.setIfInBounds r o } : World).frozen? x = w.frozen? x := fun x hx => by unfold World.frozen?; rw [hheap _ hx]
  refine ⟨R.below.trans (below_set hB o), R.hB, fun k hk => ?_, R.out, fun i o' hi => ?_, R.inj⟩
  · obtain ⟨k1, k2⟩ := R.keep k hk
    exact ⟨k1, by rw [hheap k (fun e => hF (by rw [← e]; exact hk))]; exact k2⟩
  · have hne : (o'.holds = true ∨ (ρ i).blk < w0.B) → (ρ i).blk ≠ r := by
      rintro (hk | hk)
      · exact hfree i o' hi hk
      · omega
    exact (R.obj i o' hi).moved (Ext.refl _ _) (Nat.le_refl _) (by simp) (fun hk j v hv => by rw [hcell _ (hne hk)]; exact hv) (fun hk j => hfr _ (hne (.inl hk))) (fun hk => hheap _ (hne (.inl (by cases o' <;> first | rfl | cases hk))))
/-- A new block that is no object's. -/
theorem Rel.allocFree (R : Rel P w0 ρ h w) (o : Obj) : Rel P w0 ρ h (w.alloc o) := by
  have hheap : ∀ k, k < w.heap.size → (w.alloc o).heap[k]? = w.heap[k]? := fun k hk => Below.heap_alloc _ _ _ hk
  have hcell : ∀ (x : Addr), x.block < w.heap.size → (w.alloc o).cell? x = w.cell? x := fun x hx => by unfold World.cell?; rw [hheap _ hx]
  have hfr : ∀ (x : Addr), x.block < w.heap.size → (w.alloc o).frozen? x = w.frozen? x := fun x hx => by unfold World.frozen?; rw [hheap _ hx]
  refine ⟨R.below.alloc R.size _, R.hB, fun k hk => ?_, R.out, fun i o' hi => ?_, R.inj⟩
  · obtain ⟨k1, k2⟩ := R.keep k hk
    exact ⟨k1, by rw [hheap k (Nat.lt_of_lt_of_le k1 R.below.size)]; exact k2⟩
  · have hlt : (o'.holds = true ∨ (ρ i).blk < w0.B) → (ρ i).blk < w.heap.size := by
      rintro (hk | hk)
      · have := R.obj i o' hi
        cases o' <;> simp [LO.holds] at hk <;> exact this.2.1
      · have := R.size; omega
    exact (R.obj i o' hi).moved (Ext.refl _ _) (Nat.le_refl _) (by show _ ≤ (w.heap.push _).size; rw [Array.size_push]; omega) (fun hk j v hv => by rw [hcell _ (hlt hk)]; exact hv) (fun hk j => hfr _ (hlt (.inl hk))) (fun hk => hheap _ (hlt (.inl (by cases o' <;> first | rfl | cases hk))))
/-- What came later is forgotten. -/
theorem Rel.forget {ρ' : Nat → Ph} {h' : LH} {w1 : World} (R : Rel P w0 ρ h w) (R' : Rel P w0 ρ' h' w1) (hE : Ext h.length ρ ρ') (hl : h.length ≤ h'.length) (hs : ∀ i, i < h.length → h'[i]? = h[i]?) : Rel P w0 ρ' h w1 := by
  refine ⟨R'.below, R'.hB, R'.keep, fun i o hi hh => R'.out i o (by rw [hs i (obj_lt hi)]; exact hi) hh, fun i o hi => ?_, fun i j o o' hi hj hne k1 k2 => R'.inj i j o o' (by rw [hs i (obj_lt hi)]; exact hi) (by rw [hs j (obj_lt hj)]; exact hj) hne k1 k2⟩
  have h1 := R'.obj i o (by rw [hs i (obj_lt hi)]; exact hi)
  exact h1.re (R.obj i o hi).nm (nmO_true (fun _ => rfl) o) (Nat.le_refl _) (fun _ _ _ hv => hv) (fun _ _ => rfl) (fun _ => rfl)

/-! ### The next entry -/
theorem run_getIter {r : Nat} {m : Option Nat} {s l : Nat} {seen : Array Nat} (hb : w.heap[r]? = some (.mapIter m s seen l)) : (getObj r).run P w = .ok (.mapIter m s seen l) w := by
  simp [getObj, Sem.run, hb]
theorem run_setIter {r : Nat} {m : Option Nat} {s l : Nat} {seen : Array Nat} (o : Obj) (hb : w.heap[r]? = some (.mapIter m s seen l)) : (setObj r o).run P w = .ok () { w with heap := w.heap.setIfInBounds r o } := by
  simp [setObj, Sem.run, hb]

/-- 'next': nothing is left; or an entry that is left, whichever. -/
theorem run_next_any {r bm : Nat} {seen : Array Nat} {ms : Array MapEntry} {ty : TypeId} (hr : w.heap[r]? = some (.mapIter (some bm) ms.size seen ms.size)) (hb : w.heap[bm]? = some (.map ms ms.size)) (hborn : ms.toList.map (·.born) = List.range ms.size) :
    ((∀ j, j < ms.size → j ∈ seen.toList) ∧ (Instr.next (.pointer (some ⟨r, 0, none⟩)) false ty).run P w = .ok (.tuple #[.bool false]) w) ∨
    ∃ j e k, ms[j]? = some e ∧ j ∉ seen.toList ∧ (Instr.next (.pointer (some ⟨r, 0, none⟩)) false ty).run P w = .ok (.tuple #[.bool true, e.key, e.val]) { w.drewN k with heap := w.heap.setIfInBounds r (.mapIter (some bm) ms.size (seen.push j) ms.size) } := by
  have hlt : ∀ x ∈ ms.toList, x.born < ms.size := fun x hx => by
    have : x.born ∈ List.range ms.size := by rw [← hborn]; exact List.mem_map.2 ⟨x, hx, rfl⟩
    exact List.mem_range.1 this
  have hat : ∀ (j : Nat) (e : MapEntry), ms[j]? = some e → e.born = j := fun j e he => by
    have h1 : (ms.toList.map (·.born))[j]? = some e.born := by rw [List.getElem?_map]; simp [he]
    have hj := (Array.getElem?_eq_some_iff.1 he).1
    rw [hborn, List.getElem?_range hj] at h1
    exact (Option.some.inj h1).symm
  simp only [Instr.next, Sem.run_bind, run_getIter hr, MapKept.run_getObj_map hb, Result.andThen, next_test_false seen ms ms.size ms.size hlt (Nat.le_refl _), Bool.false_eq_true, if_false]
  have hsub : ∀ x ∈ (Array.filter (fun e => !seen.contains e.born) ms).toList, x ∈ ms.toList ∧ x.born ∉ seen.toList := fun x hx => by
    simp only [Array.toList_filter, List.mem_filter] at hx
    refine ⟨hx.1, fun hc => ?_⟩
    have := hx.2
    simp at this
    exact this (by simpa using hc)
  have hall : (Array.filter (fun e => !seen.contains e.born) ms).size = 0 → ∀ j, j < ms.size → j ∈ seen.toList := fun h0 j hj => by
    apply Classical.byContradiction
    intro hn
    have hm : ms[j] ∈ (Array.filter (fun e => !seen.contains e.born) ms).toList := by
      simp only [Array.toList_filter, List.mem_filter]
      refine ⟨by simp, ?_⟩
      rw [hat j ms[j] (Array.getElem?_eq_getElem hj)]
      simpa using hn
    have : (Array.filter (fun e => !seen.contains e.born) ms).toList = [] := by
      apply List.eq_nil_of_length_eq_zero
      simpa using h0
    rw [this] at hm
    cases hm
  generalize Array.filter (fun e => !seen.contains e.born) ms = L at hsub hall ⊢
  have e1 : L.filter (fun x => decide (x.born < ms.size)) = L := Array.filter_eq_self.2 (fun x hx => by simpa using hlt x (hsub x (by simpa using hx)).1)
  have e2 : L.filter (fun x => decide (x.born ≥ ms.size)) = #[] := by
    rw [Array.filter_eq_empty_iff]
    intro x hx
    have := hlt x (hsub x (by simpa using hx)).1
    simp
    omega
  simp only [e1, e2, Array.append_empty]
  by_cases h0 : L.size = 0
  · left
    refine ⟨hall h0, ?_⟩
    have : L = #[] := Array.eq_empty_of_size_eq_zero h0
    subst this
    simp [choose, Sem.run, Question.forced]
  · right
    have hne : L.isEmpty = false := by simp [Array.isEmpty, h0]
    simp only [hne, Bool.false_eq_true, if_false, Array.empty_append, Array.size_map]
    have hch : ∃ (j k : Nat), j < L.size ∧ (choose (Question.mapNext L.size)).run P w = .ok j (w.drewN k) := by
      by_cases hf : L.size ≤ 1
      · exact ⟨0, 0, by omega, by simp [choose, Sem.run, Question.forced, hf, World.drewN]⟩
      · exact ⟨_, 1, Nat.mod_lt _ (by omega), by
          simp only [choose, Sem.run, Question.forced, decide_eq_true_eq, hf, if_false, Question.cut]
          rfl⟩
    obtain ⟨q, k, hq, hrun⟩ := hch
    obtain ⟨s1, s2⟩ := hsub L[q] (by simp)
    obtain ⟨j, hj⟩ := List.mem_iff_getElem?.1 s1
    have hj' : ms[j]? = some L[q] := by simpa using hj
    have hbj := hat j _ hj'
    refine ⟨j, L[q], k, hj', by rw [← hbj]; exact s2, ?_⟩
    have hr' : (w.drewN k).heap[r]? = some (.mapIter (some bm) ms.size seen ms.size) := hr
    simp only [hrun, Array.getElem?_map, Array.getElem?_eq_getElem hq, Option.map_some, Sem.run_bind, run_setIter _ hr', Result.andThen, Sem.run_pure, hbj]
    rfl

theorem run_entry_any {r bm j : Nat} {seen : Array Nat} {ms : Array MapEntry} {e : MapEntry} (hr : w.heap[r]? = some (.mapIter (some bm) ms.size (seen.push j) ms.size)) (hb : w.heap[bm]? = some (.map ms ms.size)) (hborn : ms.toList.map (·.born) = List.range ms.size) (hj : ms[j]? = some e) :
    (Instr.entry (.pointer (some ⟨r, 0, none⟩))).run P w = .ok (.tuple #[e.key, e.val]) w := by
  have hn : (ms.toList.map (·.born)).Nodup := by rw [hborn]; exact List.nodup_range
  have he : e ∈ ms.toList := List.mem_of_getElem? (by simpa using hj)
  have hbj : e.born = j := by
    have h1 : (ms.toList.map (·.born))[j]? = some e.born := by rw [List.getElem?_map]; simp [hj]
    rw [hborn, List.getElem?_range (Array.getElem?_eq_some_iff.1 hj).1] at h1
    exact (Option.some.inj h1).symm
  have hf : ms.find? (·.born == j) = some e := by
    rw [← hbj, ← Array.find?_toList]; exact find_born e ms.toList hn he
  simp only [Instr.entry, Sem.run_bind, run_getIter hr, MapKept.run_getObj_map hb, Result.andThen, Array.back?_push, bne_self_eq_false, Bool.false_eq_true, if_false, hf]
  rfl
end
end Go.Proofs.YtiljgimcipdadaaGreatDoor.Ev
