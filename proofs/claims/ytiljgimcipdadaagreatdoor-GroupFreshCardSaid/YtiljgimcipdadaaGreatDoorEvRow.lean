/- Arguments that come in: what a row hands to the small machine, and that it reads behind the call as it read before. -/
import Derived.Test.YtiljgimcipdadaaGreatDoorEvKit
import Derived.ChangeReads
import Derived.ChangeOld
import Derived.ChangeSlices
import Derived.ChangeShapes
import Derived.WideShapes
set_option linter.unusedVariables false
set_option linter.unusedSimpArgs false
namespace Go.Proofs.YtiljgimcipdadaaGreatDoor.Ev
open Go Go.RowKit

theorem trod_below {H : Type} {enc : TypeId × Value → H} {P : Program} {W W' : World} {base : Nat} {sp : Nat → Bool} {held : Bool} (bel : Below W.heap.size W W') {t : TypeId} {v : Value} {d : DataW H} {ps : List MemPlace}
    (h : DataW.Trod enc P W base sp held t v d ps) : DataW.Trod enc P W' base sp held t v d ps := by
  obtain ⟨n, hn⟩ := h
  exact ⟨n, DataW.trod_carry n t _ _ hn fun p hp => bel.same (DataW.trod_lt n t _ _ hn p hp)⟩

theorem trodAll_below {H : Type} {enc : TypeId × Value → H} {P : Program} {W W' : World} {base : Nat} {sp : Nat → Bool} {held : Bool} (bel : Below W.heap.size W W') : ∀ {ts : List TypeId} {vs : List Value} {ds : List (DataW H)} {ps : List MemPlace},
    DataW.TrodAll enc P W base sp held ts vs ds ps → DataW.TrodAll enc P W' base sp held ts vs ds ps
  | [], [], [], ps, h => h
  | t :: ts, v :: vs, d :: ds, ps, h => by
    obtain ⟨p, q, h1, h2, h3⟩ := h
    exact ⟨p, q, trod_below bel h1, trodAll_below bel h2, h3⟩
  | [], _ :: _, _, _, h => h.elim
  | [], [], _ :: _, _, h => h.elim
  | _ :: _, [], _, _, h => h.elim
  | _ :: _, _ :: _, [], _, h => h.elim

theorem has_lt {P : Program} {w : World} {r : Reach} {base : Nat} {a : Addr} {e : TypeId} {n : Nat} (h : w.has P r base a e n) : a.spot = none ∧ a.block < w.heap.size := by
  obtain ⟨_, h2, row, cells, h3, _⟩ := h
  refine ⟨h2, ?_⟩
  unfold World.shape? at h3
  rcases Nat.lt_or_ge a.block w.heap.size with hl | hg
  · exact hl
  · rw [Array.getElem?_eq_none hg] at h3
    cases h3

/-- A slice of whole numbers that came in. -/
theorem arg_ints {H : Type} {enc : TypeId × Value → H} {P : Program} {W : World} {b0 base : Nat} {sp : Nat → Bool} {held : Bool} {t e : TypeId} {k : IntKind} {v : Value} {d : DataW H} {ps : List MemPlace} (ht : P.underlying t = some (.slice e)) (he : P.underlying e = some (.int k)) (hc : P.cellsOf e = 1)
    (hval : Value.okWide P W .any b0 t v) (hd : DataW.Trod enc P W base sp held t v d ps) :
    v = .slice none 0 0 ∨ ∃ b off cap, ∃ zs : List Int, v = .slice (some ⟨b, off, none⟩) zs.length cap ∧ zs.length ≤ cap ∧ b < W.heap.size ∧ W.rangeAt b off (zs.map (Value.int k)) ∧ ∀ z ∈ zs, (Lit.int k z).wf = true := by
  obtain ⟨n, hn⟩ := hd
  have hcell : v.cells.toList = [v] ∨ ∃ cs, v = .agg cs := by
    cases v <;> first
      | exact .inl rfl
      | exact .inr ⟨_, rfl⟩
  have hv : Cell.ok P W .any b0 t v := by
    unfold Value.okWide at hval
    rw [ht] at hval
    unfold Cell.okWide at hval
    rw [ht] at hval
    exact hval
  rcases hcell with hcell | ⟨cs, rfl⟩
  · rw [hcell] at hn
    rcases ChangeShapes.open_ints ht he hc hn with ⟨h1, _⟩ | ⟨a, len, cap, zs, h1, h2, h3, h4, h5, h6, h7, h8⟩
    · left; simpa using h1
    · right
      have hva : v = .slice (some a) len cap := by simpa using h1
      subst hva
      unfold Cell.ok at hv
      rw [ht] at hv
      obtain ⟨hsp, hlt⟩ := has_lt hv.2.2
      obtain ⟨b, off, s⟩ := a
      simp only at hsp hlt
      subst hsp
      have hlz : len ≤ zs.length := by rw [h5]; split <;> omega
      refine ⟨b, off, cap, zs.take len, by rw [List.length_take, Nat.min_eq_left hlz], by rw [List.length_take, Nat.min_eq_left hlz]; exact h3, hlt, fun j u hu => ?_, fun z hz => h8 z (List.mem_of_mem_take hz)⟩
      rw [List.getElem?_map] at hu
      obtain ⟨z, hz, rfl⟩ := Option.map_eq_some_iff.1 hu
      rw [List.getElem?_take] at hz
      split at hz
      · have hj : j < zs.length := (List.getElem?_eq_some_iff.1 hz).1
        have := h7 j hj
        rw [Addr.add_mid] at this
        rw [this]
        simp [List.getD, hz]
      · cases hz
  · unfold Cell.ok at hv
    rw [ht] at hv
    exact hv.elim

/-- It reads behind the call as it read before. -/
theorem ints_back {H : Type} {enc : TypeId × Value → H} {P : Program} {W W' : World} {t e : TypeId} {k : IntKind} {v : Value} {d : DataW H} {ps : List MemPlace} (ht : P.underlying t = some (.slice e)) (he : P.underlying e = some (.int k)) (hc : P.cellsOf e = 1)
    (hd : DataW.Trod enc P W 0 (fun _ => true) true t v d ps) (bel : Below W.heap.size W W') : DataW.Trod enc P W' 0 (fun b => decide (b < W.heap.size)) true t v d ps := by
  obtain ⟨n, hn⟩ := hd
  rcases ChangeShapes.open_ints ht he hc hn with ⟨h1, h2⟩ | ⟨a, len, cap, zs, h1, h2, h3, h4, h5, h6, h7, h8⟩
  · obtain ⟨rfl, rfl⟩ := Prod.mk.inj h2
    obtain ⟨m, hm⟩ := shut_slice_nil (enc := enc) (w := W') (base := 0) (spare := fun b => decide (b < W.heap.size)) (held := true) ht
    exact ⟨m, by rw [h1]; exact hm⟩
  · simp only [if_true] at h5
    have hlt : 0 < cap → a.block < W.heap.size := by
      intro h0
      have := h7 0 (by omega)
      have hb : (a.add 0).block = a.block := by simp [Addr.add]
      rcases Nat.lt_or_ge a.block W.heap.size with hl | hg
      · exact hl
      · exfalso
        have h9 := World.block_lt_of_cell? _ _ this
        rw [hb] at h9
        omega
    obtain ⟨rfl, rfl⟩ := Prod.mk.inj h6
    refine ⟨2, ?_⟩
    rw [h1]
    refine ChangeShapes.shut_ints 0 ht he hc (Nat.zero_le _) h3 h4 ?_ ?_ h8
    · by_cases h0 : 0 < cap
      · rw [if_pos (decide_eq_true (hlt h0))]; exact h5
      · split
        · exact h5
        · omega
    · intro i hi
      rw [bel.cell (by
        have hb : (a.add i).block = a.block := by unfold Addr.add; split <;> rfl
        rw [hb]; exact hlt (by omega))]
      exact h7 i hi

/-- An object more, that came in. -/
theorem Rel.ro {P : Program} {w0 : Base} {ρ : Nat → Ph} {h : LH} {w : World} (R : Rel P w0 ρ h w) {t : Nat} {vs : List SV} (p : Ph) (hp : p.blk < w0.B) (hs : p.sz = P.cellsOf t) (hr : w.rangeAt p.blk p.base (vs.map (c0 ρ))) (hw : ∀ v ∈ vs, wf ρ h.length v) :
    Rel P w0 (upd ρ h.length p) (h ++ [.ro t vs]) w := by
  refine R.pseudo p (.ro t vs) rfl ⟨hp, hs, ?_, fun v hv => wf_ext (upd_ext _ _ _) (by omega) (hw v hv)⟩
  rw [map_c0_ext (upd_ext _ _ _) hw]
  exact hr

/-- Whole numbers in memory, the machine's value of a slice of them. -/
def IntA (h : LH) (e : Nat) (v : SV) (l : List Int) : Prop := (v = .nils ∧ l = []) ∨ ∃ j, v = .sl j 0 0 l.length ∧ h[j]? = some (.ro e (l.map (.int .i64)))

theorem IntA_keep {h h' : LH} {e : Nat} {v : SV} {l : List Int} (a : IntA h e v l) (hk : ∀ k, k < h.length → h'[k]? = h[k]?) : IntA h' e v l := by
  rcases a with a | ⟨j, a, b⟩
  · exact .inl a
  · exact .inr ⟨j, a, by rw [hk j (List.getElem?_eq_some_iff.1 b).1]; exact b⟩

/-- A slice of whole numbers that came in, handed over behind those that were. -/
theorem give_ints {P : Program} {W : World} {ρ : Nat → Ph} {h : LH} (R : Rel P (W0 W) ρ h W) {e : Nat} (hc : P.cellsOf e = 1) {v : Value}
    (hv : v = .slice none 0 0 ∨ ∃ b off cap, ∃ zs : List Int, v = .slice (some ⟨b, off, none⟩) zs.length cap ∧ zs.length ≤ cap ∧ b < W.heap.size ∧ W.rangeAt b off (zs.map (Value.int .i64)) ∧ ∀ z ∈ zs, (Lit.int .i64 z).wf = true) :
    ∃ ρ' h' u l, Rel P (W0 W) ρ' h' W ∧ Ext h.length ρ ρ' ∧ h.length ≤ h'.length ∧ (∀ k, k < h.length → h'[k]? = h[k]?) ∧ wf ρ' h'.length u ∧ c0 ρ' u = v ∧ IntA h' e u l ∧ ∀ z ∈ l, (Lit.int .i64 z).wf = true := by
  rcases hv with rfl | ⟨b, off, cap, zs, rfl, hle, hlt, hr, hw⟩
  · exact ⟨ρ, h, .nils, [], R, Ext.refl _ _, Nat.le_refl _, fun _ _ => rfl, trivial, rfl, .inl ⟨rfl, rfl⟩, by simp⟩
  · refine ⟨upd ρ h.length ⟨b, off, 1, cap, undef⟩, h ++ [.ro e (zs.map (.int .i64))], .sl h.length 0 0 zs.length, zs, ?_, upd_ext _ _ _, by simp, fun k hk => List.getElem?_append_left hk, ?_, ?_, .inr ⟨h.length, rfl, ?_⟩, hw⟩
    · refine R.ro _ hlt hc.symm ?_ ?_
      · rw [List.map_map]; exact hr
      · intro u hu
        obtain ⟨z, _, rfl⟩ := List.mem_map.1 hu
        trivial
    · simp only [wf, upd_self, List.length_append, List.length_singleton]; omega
    · simp [c0, adr, upd_self]
    · rw [List.getElem?_append_right (Nat.le_refl _), Nat.sub_self]; rfl

/-- It can be read. -/
theorem IntA.rd {h : LH} {e : Nat} {v : SV} {l : List Int} (a : IntA h e v l) : Rd h e 1 encI v l := by
  rcases a with ⟨rfl, rfl⟩ | ⟨j, rfl, b⟩
  · exact .inl ⟨rfl, .inl rfl⟩
  · refine .inr ⟨j, 0, 0, _, _, rfl, b, rfl, by simp, ?_⟩
    rw [encI_flat]
    simp [List.take_of_length_le]
/-- How much room one takes that came in. -/
theorem ints_room {H : Type} {enc : TypeId × Value → H} {P : Program} {W : World} {base : Nat} {sp : Nat → Bool} {held : Bool} {t e : TypeId} {k : IntKind} {v : Value} {d : DataW H} {ps : List MemPlace} {y B : Nat} (ht : P.underlying t = some (.slice e)) (he : P.underlying e = some (.int k)) (hc : P.cellsOf e = 1)
    (hd : DataW.Trod enc P W base sp held t v d ps) (hs : ∀ el rest, d = .slice el rest → (el.length + rest.length) * y ≤ B) : ∀ a len cap, v = .slice (some a) len cap → len * y ≤ B := by
  rintro a len cap rfl
  obtain ⟨n, hn⟩ := hd
  rcases ChangeShapes.open_ints ht he hc hn with ⟨h1, _⟩ | ⟨a', len', cap', zs, h1, h2, h3, h4, h5, h6, h7, h8⟩
  · simp [Value.cells] at h1
  · obtain ⟨rfl, rfl⟩ := Prod.mk.inj h6
    have hl : len = len' := by simp [Value.cells] at h1; exact h1.2.1
    subst hl
    have := hs _ _ rfl
    have e1 : (ChangeShapes.lits (H := H) k (zs.take len)).length = len := by
      rw [show (ChangeShapes.lits (H := H) k (zs.take len)).length = (zs.take len).length from List.length_map _, List.length_take]
      split at h5 <;> omega
    rw [e1] at this
    exact Nat.le_trans (Nat.mul_le_mul_right _ (Nat.le_add_right _ _)) this
theorem IntA_room {h : LH} {ρ : Nat → Ph} {e : Nat} {u : SV} {v : Value} {l : List Int} {y B : Nat} (i : IntA h e u l) (c : c0 ρ u = v) (hs : ∀ a len cap, v = .slice (some a) len cap → len * y ≤ B) : l.length * y ≤ B := by
  rcases i with ⟨_, rfl⟩ | ⟨j, rfl, _⟩
  · simp
  · exact hs _ _ _ c.symm
theorem lit_64 {n : Int} (h : (Lit.int .i64 n).wf = true) : -9223372036854775808 ≤ n ∧ n < 9223372036854775808 := by
  simp [Lit.wf, IntKind.min, IntKind.max, IntKind.signed, IntKind.bits] at h
  omega

end Go.Proofs.YtiljgimcipdadaaGreatDoor.Ev
