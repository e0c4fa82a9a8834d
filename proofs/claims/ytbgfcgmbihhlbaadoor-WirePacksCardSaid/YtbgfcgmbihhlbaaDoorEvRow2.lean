/- Rows of flat structs that come in; and that all arguments read behind the call as they read before. -/
import Derived.Test.YtbgfcgmbihhlbaaDoorEvRow
import Derived.ReadAgain
import Derived.ChangeArms
import Derived.ChangeBears
import Derived.Deep.Slices
set_option linter.unusedVariables false
set_option linter.unusedSimpArgs false
namespace Go.Proofs.YtbgfcgmbihhlbaaDoor.Ev
open Go Go.RowKit

/-- An argument of any type reads behind the call as it read before. -/
theorem arg_back {H : Type} {enc : TypeId × Value → H} {P : Program} {W W' : World} (K : Kids P (· < P.types.size)) (hz : ∀ t e, t < P.types.size → P.underlying t = some (.slice e) → 0 < P.cellsOf e) {t : TypeId} (ht : t < P.types.size) {v : Value} {d : DataW H} {ps : List MemPlace}
    (hd : DataW.Trod enc P W 0 (fun _ => true) true t v d ps) (bel : Below W.heap.size W W') : DataW.Trod enc P W' 0 (fun b => decide (b < W.heap.size)) true t v d ps := by
  refine trod_below bel (hd.respare K hz ht fun p hp => decide_eq_true ?_)
  obtain ⟨n, hn⟩ := hd
  exact DataW.trod_lt n t _ _ hn p hp

inductive FK where
  | int
  | bool
  | str
def fkOk : FK → SV → Prop
  | .int, v => ∃ n, v = .int .i64 n ∧ (Lit.int .i64 n).wf = true
  | .bool, v => ∃ b, v = .bool b
  | .str, v => ∃ s, v = .str s ∧ s.size ≤ maxLen
def RowOk (ks : List FK) (row : List SV) : Prop := row.length = ks.length ∧ ∀ (i : Nat) (k : FK), ks[i]? = some k → ∃ v, row[i]? = some v ∧ fkOk k v
def flatB (P : Program) (e : TypeId) (ks : List FK) : Bool :=
  match P.underlying e with
  | some (.struct fs) => P.cellsOf e == ks.length && (List.range ks.length).all fun i =>
    match fs[i]?, ks[i]? with
    | some f, some k => f.offset == i && P.cellsOf f.type == 1 && (match k, P.underlying f.type with
      | .int, some (.int .i64) => true
      | .bool, some .bool => true
      | .str, some .string => true
      | _, _ => false)
    | _, _ => false
  | _ => false
theorem flatB_spec {P : Program} {e : TypeId} {ks : List FK} (h : flatB P e ks = true) : ∃ fs : Array Field, P.underlying e = some (.struct fs) ∧ P.cellsOf e = ks.length ∧ ∀ (i : Nat) (k : FK), ks[i]? = some k → ∃ f : Field, fs[i]? = some f ∧ f.offset = i ∧ P.cellsOf f.type = 1 ∧ P.underlying f.type = some (match k with | .int => .int .i64 | .bool => .bool | .str => .string) := by
  unfold flatB at h
  split at h
  · rename_i fs hfs
    simp only [Bool.and_eq_true, beq_iff_eq, List.all_eq_true, List.mem_range] at h
    refine ⟨fs, hfs, h.1, fun i k hk => ?_⟩
    have hi := (List.getElem?_eq_some_iff.1 hk).1
    have := h.2 i hi
    rw [hk] at this
    split at this
    · rename_i f k' hf hk'
      cases hk'
      simp only [Bool.and_eq_true, beq_iff_eq] at this
      refine ⟨f, hf, this.1.1, this.1.2, ?_⟩
      have h3 := this.2
      split at h3
      · rename_i h4; simpa using h4
      · rename_i h4; simpa using h4
      · rename_i h4; simpa using h4
      · cases h3
    · cases this
  · cases h

def toSV : Value → SV
  | .int _ n => .int .i64 n
  | .bool b => .bool b
  | .string s => .str s
  | _ => .nilp
theorem open_flat {H : Type} {enc : TypeId × Value → H} {P : Program} {W : World} {base : Nat} {sp : Nat → Bool} {held : Bool} {e : TypeId} {ks : List FK} {n : Nat} {cs : List Value} {x : DataW H × List MemPlace} (hf : flatB P e ks = true) (h : DataW.trod enc P W base sp held n e cs = some x) :
    RowOk ks (cs.map toSV) ∧ ∀ ρ, (cs.map toSV).map (c0 ρ) = cs := by
  obtain ⟨fs, he, hc, hk⟩ := flatB_spec hf
  obtain ⟨xs, m, rfl, rfl, hl, hxl, hx⟩ := DataW.trod_struct he h
  rw [hc] at hl
  have key : ∀ (i : Nat) (k : FK), ks[i]? = some k → ∃ v, cs[i]? = some v ∧ fkOk k (toSV v) ∧ ∀ ρ, c0 ρ (toSV v) = v := by
    intro i k hik
    have hi := (List.getElem?_eq_some_iff.1 hik).1
    obtain ⟨f, hff, ho, hc1, hu⟩ := hk i k hik
    have hfl : i < fs.size := (Array.getElem?_eq_some_iff.1 hff).1
    have hi' : i < cs.length := by omega
    have := hx i f hff
    rw [ho, hc1, List.getElem?_eq_getElem (by omega)] at this
    have e1 : (cs.drop i).take 1 = [cs[i]] := by
      rw [List.drop_eq_getElem_cons hi']; rfl
    rw [e1] at this
    refine ⟨cs[i], List.getElem?_eq_getElem hi', ?_⟩
    cases m with
    | zero => simp [DataW.trod] at this
    | succ m =>
      unfold DataW.trod at this
      rw [hu] at this
      cases k with
      | int =>
        simp only at this
        generalize cs[i] = v at this ⊢
        cases v <;> simp at this
        rename_i k' n'
        obtain ⟨⟨rfl, hw⟩, _⟩ := this
        exact ⟨⟨n', rfl, hw⟩, fun ρ => rfl⟩
      | bool =>
        simp only at this
        generalize cs[i] = v at this ⊢
        cases v <;> simp at this
        rename_i b
        exact ⟨⟨b, rfl⟩, fun ρ => rfl⟩
      | str =>
        simp only at this
        generalize cs[i] = v at this ⊢
        cases v <;> simp at this
        rename_i s
        exact ⟨⟨s, rfl, this.1⟩, fun ρ => rfl⟩
  refine ⟨⟨by rw [List.length_map, hl], fun i k hik => ?_⟩, fun ρ => ?_⟩
  · obtain ⟨v, h1, h2, _⟩ := key i k hik
    exact ⟨toSV v, by rw [List.getElem?_map, h1]; rfl, h2⟩
  · rw [List.map_map]
    refine List.ext_getElem? fun i => ?_
    rw [List.getElem?_map]
    by_cases hi : i < ks.length
    · obtain ⟨v, h1, _, h3⟩ := key i _ (List.getElem?_eq_getElem hi)
      rw [h1]
      show some (c0 ρ (toSV v)) = some v
      rw [h3]
    · rw [List.getElem?_eq_none (by omega)]; rfl

theorem flat_get {α : Type} {enc : α → List SV} {z : Nat} (he : ∀ a, (enc a).length = z) : ∀ (l : List α) (j : Nat) (u : SV), (l.flatMap enc)[j]? = some u → ∃ i r, i < l.length ∧ r < z ∧ j = i * z + r ∧ ∃ a, l[i]? = some a ∧ (enc a)[r]? = some u
  | [], j, u, h => by simp at h
  | a :: l, j, u, h => by
    rw [List.flatMap_cons] at h
    by_cases c : j < z
    · rw [List.getElem?_append_left (by rw [he]; exact c)] at h
      exact ⟨0, j, by simp, c, by omega, a, rfl, h⟩
    · rw [List.getElem?_append_right (by rw [he]; omega), he] at h
      obtain ⟨i, r, h1, h2, h3, b, h4, h5⟩ := flat_get he l (j - z) u h
      refine ⟨i + 1, r, by simpa using h1, h2, ?_, b, by simpa using h4, h5⟩
      rw [Nat.add_mul]; omega

theorem pick_list {α β : Type} {p : α → Prop} {f : α → β} : ∀ {l : List β}, (∀ b ∈ l, ∃ a, f a = b ∧ p a) → ∃ r : List α, r.map f = l ∧ ∀ a ∈ r, p a
  | [], _ => ⟨[], rfl, by simp⟩
  | b :: l, h => by
    obtain ⟨a, h1, h2⟩ := h b List.mem_cons_self
    obtain ⟨r, h3, h4⟩ := pick_list (l := l) fun b hb => h b (List.mem_cons_of_mem _ hb)
    refine ⟨a :: r, by rw [List.map_cons, h1, h3], fun x hx => ?_⟩
    rcases List.mem_cons.1 hx with rfl | hx
    · exact h2
    · exact h4 x hx

/-- A slice of flat structs that came in. -/
theorem arg_rows {H : Type} {enc : TypeId × Value → H} {P : Program} {W : World} {b0 base : Nat} {sp : Nat → Bool} {held : Bool} {t e : TypeId} {ks : List FK} {v : Value} {d : DataW H} {ps : List MemPlace} (ht : P.underlying t = some (.slice e)) (hf : flatB P e ks = true)
    {α : Type} {en : α → List SV} {good : α → Prop} (hE : ∀ row, RowOk ks row → ∃ a, en a = row ∧ good a)
    (hval : Value.okWide P W .any b0 t v) (hd : DataW.Trod enc P W base sp held t v d ps) :
    v = .slice none 0 0 ∨ ∃ b off cap, ∃ l : List α, v = .slice (some ⟨b, off, none⟩) l.length cap ∧ l.length ≤ cap ∧ b < W.heap.size ∧ (∀ ρ, W.rangeAt b off ((l.flatMap en).map (c0 ρ))) ∧ (∀ a ∈ l, good a) ∧ ∀ a ∈ l, (en a).length = ks.length := by
  obtain ⟨n, hn⟩ := hd
  obtain ⟨fs, he, hc, _⟩ := flatB_spec hf
  have hv : Cell.ok P W .any b0 t v := by
    unfold Value.okWide at hval
    rw [ht] at hval
    unfold Cell.okWide at hval
    rw [ht] at hval
    exact hval
  have hcell : v.cells.toList = [v] ∨ ∃ cs, v = .agg cs := by
    cases v <;> first
      | exact .inl rfl
      | exact .inr ⟨_, rfl⟩
  rcases hcell with hcell | ⟨cs, rfl⟩
  · rw [hcell] at hn
    rcases DataW.trod_slice ht hn with ⟨h1, _⟩ | ⟨a, len, cap, elems, rest, m, _, h1, _, hb, hl, hm, hlen, hel, _, _⟩
    · left; simpa using h1
    · right
      have hva : v = .slice (some a) len cap := by simpa using h1
      subst hva
      unfold Cell.ok at hv
      rw [ht] at hv
      obtain ⟨hsp, hlt⟩ := has_lt hv.2.2
      obtain ⟨b, off, s⟩ := a
      simp only at hsp hlt
      subst hsp
      have each : ∀ i, i < len → ∃ a : α, (∀ (r : Nat) (u : SV), (en a)[r]? = some u → ∀ ρ, W.cell? ⟨b, off + (i * ks.length + r), none⟩ = some (c0 ρ u)) ∧ good a ∧ (en a).length = ks.length := by
        intro i hi
        have h2 := hel i hi
        rw [List.getElem?_eq_getElem (by omega)] at h2
        obtain ⟨cs', h3, h4⟩ := Option.bind_eq_some_iff.1 h2
        obtain ⟨h5, h6⟩ := open_flat hf h4
        obtain ⟨a, ha, hg⟩ := hE _ h5
        refine ⟨a, fun r u hu ρ => ?_, hg, by rw [ha]; exact h5.1⟩
        rw [ha] at hu
        have hr : r < cs'.length := by have := (List.getElem?_eq_some_iff.1 hu).1; simpa using this
        obtain ⟨_, hcl, hcc⟩ := World.cells?_some h3
        have h7 := hcc r (by omega)
        have h8 : cs'[r]? = some (c0 ρ u) := by
          have := h6 ρ
          rw [← this, List.getElem?_map, hu]; rfl
        rw [h8] at h7
        rw [Addr.add_mid, Addr.add_mid] at h7
        rw [hc] at h7
        rw [← h7, Nat.add_assoc]
      obtain ⟨l, hl1, hl2⟩ : ∃ l : List α, l.length = len ∧ ∀ (i : Nat) (a : α), l[i]? = some a → (∀ (r : Nat) (u : SV), (en a)[r]? = some u → ∀ ρ, W.cell? ⟨b, off + (i * ks.length + r), none⟩ = some (c0 ρ u)) ∧ good a ∧ (en a).length = ks.length := by
        refine ⟨(List.range len).pmap (fun i hi => (each i hi).choose) (fun i hi => List.mem_range.1 hi), by simp, fun i a hia => ?_⟩
        obtain ⟨hi, e⟩ := List.getElem?_eq_some_iff.1 hia
        simp at e
        rw [← e]
        exact (each i (by simpa using hi)).choose_spec
      have hlk : ∀ a ∈ l, (en a).length = ks.length := fun a ha => by
        obtain ⟨i, hi, e⟩ := List.mem_iff_getElem.1 ha
        exact (hl2 i a (by rw [List.getElem?_eq_getElem hi, e])).2.2
      refine ⟨b, off, cap, l, by rw [hl1], by omega, hlt, fun ρ j u hu => ?_, fun a ha => ?_, hlk⟩
      · rw [List.getElem?_map] at hu
        obtain ⟨u', hu', rfl⟩ := Option.map_eq_some_iff.1 hu
        have : ∀ (l' : List α) (j : Nat), (∀ a ∈ l', (en a).length = ks.length) → (l'.flatMap en)[j]? = some u' → ∃ (i r : Nat) (a : α), j = i * ks.length + r ∧ l'[i]? = some a ∧ (en a)[r]? = some u' := by
          intro l'
          induction l' with
          | nil => intro j _ h; simp at h
          | cons a l' ih =>
            intro j hk h
            rw [List.flatMap_cons] at h
            have hka := hk a List.mem_cons_self
            by_cases c : j < ks.length
            · rw [List.getElem?_append_left (by omega)] at h
              exact ⟨0, j, a, by omega, rfl, h⟩
            · rw [List.getElem?_append_right (by omega), hka] at h
              obtain ⟨i, r, a', h1, h2, h3⟩ := ih _ (fun x hx => hk x (List.mem_cons_of_mem _ hx)) h
              exact ⟨i + 1, r, a', by rw [Nat.add_mul]; omega, by simpa using h2, h3⟩
        obtain ⟨i, r, a, rfl, h1, h2⟩ := this l j hlk hu'
        exact (hl2 i a h1).1 r u' h2 ρ
      · obtain ⟨i, hi, e⟩ := List.mem_iff_getElem.1 ha
        exact (hl2 i a (by rw [List.getElem?_eq_getElem hi, e])).2.1
  · unfold Cell.ok at hv
    rw [ht] at hv
    exact hv.elim

/-- Rows in memory, the machine's value of a slice of them. -/
def RowA {α : Type} (h : LH) (e : Nat) (enc : α → List SV) (v : SV) (l : List α) : Prop := (v = .nils ∧ l = []) ∨ ∃ j, v = .sl j 0 0 l.length ∧ h[j]? = some (.ro e (l.flatMap enc))
theorem RowA_keep {α : Type} {enc : α → List SV} {h h' : LH} {e : Nat} {v : SV} {l : List α} (a : RowA h e enc v l) (hk : ∀ k, k < h.length → h'[k]? = h[k]?) : RowA h' e enc v l := by
  rcases a with a | ⟨j, a, b⟩
  · exact .inl a
  · exact .inr ⟨j, a, by rw [hk j (List.getElem?_eq_some_iff.1 b).1]; exact b⟩
theorem RowA.rd {α : Type} {enc : α → List SV} {z : Nat} (he : ∀ a, (enc a).length = z) {h : LH} {e : Nat} {v : SV} {l : List α} (a : RowA h e enc v l) : Rd h e z enc v l := by
  rcases a with ⟨rfl, rfl⟩ | ⟨j, rfl, b⟩
  · exact .inl ⟨rfl, .inl rfl⟩
  · refine .inr ⟨j, 0, 0, _, _, rfl, b, rfl, by rw [flat_len he, Nat.zero_add]; exact Nat.le_refl _, ?_⟩
    rw [Nat.zero_mul, List.drop_zero, List.take_of_length_le (by rw [flat_len he]; exact Nat.le_refl _)]

/-- A slice of rows that came in, handed over behind what was. -/
theorem give_rows {α : Type} {enc : α → List SV} {good : α → Prop} {P : Program} {W : World} {ρ : Nat → Ph} {h : LH} (R : Rel P (W0 W) ρ h W) {e z : Nat} (hc : P.cellsOf e = z) (hflat : ∀ a, ∀ u ∈ enc a, wf ρ 0 u ∧ ∀ ρ' n, wf ρ' n u) {v : Value}
    (hv : v = .slice none 0 0 ∨ ∃ b off cap, ∃ l : List α, v = .slice (some ⟨b, off, none⟩) l.length cap ∧ l.length ≤ cap ∧ b < W.heap.size ∧ (∀ ρ, W.rangeAt b off ((l.flatMap enc).map (c0 ρ))) ∧ (∀ a ∈ l, good a) ∧ ∀ a ∈ l, (enc a).length = z) :
    ∃ ρ' h' u l, Rel P (W0 W) ρ' h' W ∧ Ext h.length ρ ρ' ∧ h.length ≤ h'.length ∧ (∀ k, k < h.length → h'[k]? = h[k]?) ∧ wf ρ' h'.length u ∧ c0 ρ' u = v ∧ RowA h' e enc u l ∧ ∀ a ∈ l, good a := by
  rcases hv with rfl | ⟨b, off, cap, l, rfl, hle, hlt, hr, hw, hk⟩
  · exact ⟨ρ, h, .nils, [], R, Ext.refl _ _, Nat.le_refl _, fun _ _ => rfl, trivial, rfl, .inl ⟨rfl, rfl⟩, by simp⟩
  · refine ⟨upd ρ h.length ⟨b, off, z, cap, undef⟩, h ++ [.ro e (l.flatMap enc)], .sl h.length 0 0 l.length, l, ?_, upd_ext _ _ _, by simp, fun k hk => List.getElem?_append_left hk, ?_, ?_, .inr ⟨h.length, rfl, ?_⟩, hw⟩
    · refine R.ro _ hlt hc.symm (hr ρ) ?_
      intro u hu
      obtain ⟨a, _, hu⟩ := List.mem_flatMap.1 hu
      exact (hflat a u hu).2 _ _
    · simp only [wf, upd_self, List.length_append, List.length_singleton]; omega
    · simp [c0, adr, upd_self]
    · rw [List.getElem?_append_right (Nat.le_refl _), Nat.sub_self]; rfl
end Go.Proofs.YtbgfcgmbihhlbaaDoor.Ev
