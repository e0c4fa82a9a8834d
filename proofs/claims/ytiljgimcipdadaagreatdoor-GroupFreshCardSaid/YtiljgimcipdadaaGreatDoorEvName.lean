/- Which objects a value names; parts of a heap. -/
import Derived.Test.YtiljgimcipdadaaGreatDoorEvGrow
set_option linter.unusedVariables false
set_option linter.unusedSimpArgs false
namespace Go.Proofs.YtiljgimcipdadaaGreatDoor.Ev
open Go Go.RowKit

variable {P : Program} {w0 : Base}

theorem nmL_iff {S : Nat → Prop} : ∀ {l : List SV}, nmL S l ↔ ∀ v ∈ l, nmS S v
  | [] => by simp [nmL]
  | v :: r => by simp [nmL, nmL_iff (l := r)]

theorem nmVL_iff {S : Nat → Prop} : ∀ {l : List FV}, nmVL S l ↔ ∀ v ∈ l, nmV S v
  | [] => by simp [nmVL]
  | v :: r => by simp [nmVL, nmVL_iff (l := r)]

theorem nmS_mono {S T : Nat → Prop} (h : ∀ q, S q → T q) {v : SV} (hv : nmS S v) : nmS T v := by
  cases v <;> first | exact trivial | exact h _ hv
theorem nmL_mono {S T : Nat → Prop} (h : ∀ q, S q → T q) {l : List SV} (hv : nmL S l) : nmL T l :=
  nmL_iff.2 fun v hm => nmS_mono h (nmL_iff.1 hv v hm)
mutual
theorem nmV_mono {S T : Nat → Prop} (h : ∀ q, S q → T q) : ∀ {v : FV}, nmV S v → nmV T v
  | .s v, hv => nmS_mono h hv
  | .agg l, hv => nmL_mono h hv
  | .tup l, hv => nmVL_mono h hv
theorem nmVL_mono {S T : Nat → Prop} (h : ∀ q, S q → T q) : ∀ {l : List FV}, nmVL S l → nmVL T l
  | [], _ => trivial
  | v :: r, hv => ⟨nmV_mono h hv.1, nmVL_mono h hv.2⟩
end

theorem wf_nm {ρ : Nat → Ph} {n : Nat} {v : SV} (h : wf ρ n v) : nmS (· < n) v := by
  cases v <;> first | exact trivial | exact h | exact h.1
theorem wf1_nm {ρ : Nat → Ph} {n : Nat} {v : FV} (h : wf1 ρ n v) : nmV (· < n) v := by
  cases v with
  | s v => exact wf_nm h
  | agg l => exact nmL_iff.2 fun v hm => wf_nm (h v hm)
  | tup l => exact h.elim
theorem wfV_nm {ρ : Nat → Ph} {n : Nat} {v : FV} (h : wfV ρ n v) : nmV (· < n) v := by
  cases v with
  | s v => exact wf_nm h
  | agg l => exact nmL_iff.2 fun v hm => wf_nm (h v hm)
  | tup l => exact nmVL_iff.2 fun v hm => wf1_nm (h v hm)

/-- Another placing that says the same of the objects named. -/
theorem wf_re {ρ ρ' : Nat → Ph} {n m : Nat} {v : SV} (h : wf ρ n v) (hm : nmS (· < m) v) (hn : nmS (fun q => ρ' q = ρ q) v) : wf ρ' m v ∧ c0 ρ' v = c0 ρ v := by
  cases v <;> first
    | exact ⟨trivial, rfl⟩
    | (have e : ρ' _ = ρ _ := hn
       exact ⟨hm, by simp only [c0]; rw [e]⟩)
    | (have e : ρ' _ = ρ _ := hn
       exact ⟨⟨hm, by rw [e]; exact h.2⟩, by simp only [c0]; rw [e]⟩)

theorem wf1_re {ρ ρ' : Nat → Ph} {n m : Nat} {v : FV} (h : wf1 ρ n v) (hm : nmV (· < m) v) (hn : nmV (fun q => ρ' q = ρ q) v) : wf1 ρ' m v ∧ c1 ρ' v = c1 ρ v := by
  cases v with
  | s v => exact wf_re h hm hn
  | agg l =>
    have k := fun v (hv : v ∈ l) => wf_re (h v hv) (nmL_iff.1 hm v hv) (nmL_iff.1 hn v hv)
    refine ⟨fun v hv => (k v hv).1, ?_⟩
    simp only [c1]
    rw [List.map_congr_left fun v hv => (k v hv).2]
  | tup l => exact h.elim

theorem wfV_re {ρ ρ' : Nat → Ph} {n m : Nat} {v : FV} (h : wfV ρ n v) (hm : nmV (· < m) v) (hn : nmV (fun q => ρ' q = ρ q) v) : wfV ρ' m v ∧ cv ρ' v = cv ρ v := by
  cases v with
  | s v => exact wf_re h hm hn
  | agg l =>
    have k := fun v (hv : v ∈ l) => wf_re (h v hv) (nmL_iff.1 hm v hv) (nmL_iff.1 hn v hv)
    refine ⟨fun v hv => (k v hv).1, ?_⟩
    simp only [cv]
    rw [List.map_congr_left fun v hv => (k v hv).2]
  | tup l =>
    have k := fun v (hv : v ∈ l) => wf1_re (h v hv) (nmVL_iff.1 hm v hv) (nmVL_iff.1 hn v hv)
    refine ⟨fun v hv => (k v hv).1, ?_⟩
    simp only [cv]
    rw [List.map_congr_left fun v hv => (k v hv).2]

/-- What an object names. -/
def nmO (S : Nat → Prop) : LO → Prop
  | .own _ vs => nmL S vs
  | .ro _ vs => nmL S vs
  | .clo _ a b => (∀ v ∈ a, nmV S v) ∧ ∀ v ∈ b, nmV S v
  | .ifc _ v => nmV S v
  | .map es => ∀ x ∈ es, nmS S x.2
  | _ => True

theorem nmO_mono {S T : Nat → Prop} (h : ∀ q, S q → T q) {o : LO} (ho : nmO S o) : nmO T o := by
  cases o <;> first
    | exact trivial
    | exact nmL_mono h ho
    | exact nmV_mono h ho
    | exact ⟨fun v hv => nmV_mono h (ho.1 v hv), fun v hv => nmV_mono h (ho.2 v hv)⟩
    | exact fun x hx => nmS_mono h (ho x hx)

theorem ObjR.nm {B n : Nat} {ρ : Nat → Ph} {p : Ph} {w : World} {o : LO} (h : ObjR P B ρ n p w o) : nmO (· < n) o := by
  cases o with
  | own t vs => exact nmL_iff.2 fun v hv => wf_nm (h.2.2.2.2.2.2 v hv)
  | ro t vs => exact nmL_iff.2 fun v hv => wf_nm (h.2.2.2 v hv)
  | clo f a b => exact ⟨fun v hv => wf1_nm (h.2.1 v hv), fun v hv => wf1_nm (h.2.2 v hv)⟩
  | ifc t v => exact wf1_nm h.2
  | map es => exact fun x hx => wf_nm (nl_wf (ρ := ρ) (h.2.2.2 x hx).2)
  | _ => trivial

/-- The same object, as another placing and another bound say it. -/
theorem ObjR.re {B n m : Nat} {ρ ρ' : Nat → Ph} {p : Ph} {w w' : World} {o : LO} (h : ObjR P B ρ n p w o) (hm : nmO (· < m) o) (hn : nmO (fun q => ρ' q = ρ q) o) (hs : w.heap.size ≤ w'.heap.size)
    (hc : (o.holds = true ∨ p.blk < B) → ∀ j v, w.cell? ⟨p.blk, j, none⟩ = some v → w'.cell? ⟨p.blk, j, none⟩ = some v) (hf : o.holds = true → ∀ j, w'.frozen? ⟨p.blk, j, none⟩ = w.frozen? ⟨p.blk, j, none⟩) (hwh : o.whole = true → w'.heap[p.blk]? = w.heap[p.blk]?) :
    ObjR P B ρ' m p w' o := by
  cases o with
  | own t vs =>
    obtain ⟨h1, h2, h3, h4, h5, h6, h7⟩ := h
    have k := fun v (hv : v ∈ vs) => wf_re (h7 v hv) (nmL_iff.1 hm v hv) (nmL_iff.1 hn v hv)
    refine ⟨h1, by omega, h3, fun j hj => ?_, fun j v hv => ?_, h6, fun v hv => (k v hv).1⟩
    · obtain ⟨q1, q2⟩ := h4 j hj
      obtain ⟨u, hu⟩ := Option.isSome_iff_exists.1 q1
      exact ⟨by rw [hc (.inl rfl) _ u hu]; rfl, by rw [hf rfl]; exact q2⟩
    · rw [List.map_congr_left fun v hv => (k v hv).2] at hv
      exact hc (.inl rfl) _ _ (h5 j v hv)
  | ro t vs =>
    obtain ⟨h1, h2, h3, h4⟩ := h
    have k := fun v (hv : v ∈ vs) => wf_re (h4 v hv) (nmL_iff.1 hm v hv) (nmL_iff.1 hn v hv)
    refine ⟨h1, h2, fun j v hv => ?_, fun v hv => (k v hv).1⟩
    rw [List.map_congr_left fun v hv => (k v hv).2] at hv
    exact hc (.inr h1) _ _ (h3 j v hv)
  | dead => trivial
  | clo f a b =>
    obtain ⟨h1, h2, h3⟩ := h
    have k1 := fun v (hv : v ∈ a) => wf1_re (h2 v hv) (hm.1 v hv) (hn.1 v hv)
    have k2 := fun v (hv : v ∈ b) => wf1_re (h3 v hv) (hm.2 v hv) (hn.2 v hv)
    refine ⟨?_, fun v hv => (k1 v hv).1, fun v hv => (k2 v hv).1⟩
    rw [h1, List.map_congr_left fun v hv => (k1 v hv).2, List.map_congr_left fun v hv => (k2 v hv).2]
  | ifc t v =>
    obtain ⟨h1, h2⟩ := h
    have k := wf1_re h2 hm hn
    exact ⟨by rw [h1, k.2], k.1⟩
  | map es =>
    obtain ⟨h1, h2, ⟨ms, h3, h4, h6⟩, h5⟩ := h
    exact ⟨h1, by omega, ⟨ms, by rw [hwh rfl]; exact h3, by rw [h4]; exact (nl_map h5).symm, h6⟩, h5⟩
  | iter s p =>
    obtain ⟨h1, h2, h3, h4⟩ := h
    exact ⟨h1, by omega, h3, by rw [hwh rfl]; exact h4⟩

theorem nmS_true {S : Nat → Prop} (h : ∀ q, S q) (v : SV) : nmS S v := by cases v <;> first | exact trivial | exact h _
theorem nmL_true {S : Nat → Prop} (h : ∀ q, S q) (l : List SV) : nmL S l := nmL_iff.2 fun v _ => nmS_true h v
mutual
theorem nmV_true {S : Nat → Prop} (h : ∀ q, S q) : ∀ (v : FV), nmV S v
  | .s v => nmS_true h v
  | .agg l => nmL_true h l
  | .tup l => nmVL_true h l
theorem nmVL_true {S : Nat → Prop} (h : ∀ q, S q) : ∀ (l : List FV), nmVL S l
  | [] => trivial
  | v :: r => ⟨nmV_true h v, nmVL_true h r⟩
end
theorem nmO_true {S : Nat → Prop} (h : ∀ q, S q) (o : LO) : nmO S o := by
  cases o <;> first
    | exact trivial
    | exact nmL_true h _
    | exact nmV_true h _
    | exact ⟨fun v _ => nmV_true h v, fun v _ => nmV_true h v⟩
    | exact fun x _ => nmS_true h x.2

/-- Which blocks are kept while the first n objects of a heap are worked on: those of the others. -/
def Fk (w0 : Base) (ρ : Nat → Ph) (n : Nat) (H : LH) (k : Nat) : Prop := w0.F k ∨ ∃ i o, n ≤ i ∧ H[i]? = some o ∧ o.holds = true ∧ k = (ρ i).blk

theorem take_get {H : LH} {x i : Nat} {o : LO} (h : (H.take x)[i]? = some o) : i < x ∧ H[i]? = some o := by
  rw [List.getElem?_take] at h
  split at h
  · rename_i hl; exact ⟨hl, h⟩
  · cases h

/-- The first objects alone. -/
theorem Rel.part {ρ : Nat → Ph} {H : LH} {w : World} (r : Rel P w0 ρ H w) {x n : Nat} (hx : x ≤ n) (hl : x ≤ H.length) (hn : ∀ i o, i < x → H[i]? = some o → nmO (· < x) o) : Rel P ⟨w, w0.B, Fk w0 ρ n H⟩ ρ (H.take x) w := by
  have hlen : (H.take x).length = x := by rw [List.length_take]; omega
  refine ⟨Below.refl _ _, r.size, fun k hk => ⟨?_, rfl⟩, fun i o hi hh hk => ?_, fun i o hi => ?_, fun i j o o' hi hj hne k1 k2 => r.inj i j o o' (take_get hi).2 (take_get hj).2 hne k1 k2⟩
  · rcases hk with hk | ⟨i, o, h1, h2, h3, rfl⟩
    · exact Nat.lt_of_lt_of_le (r.keep k hk).1 r.below.size
    · have := r.obj i o h2
      cases o <;> first
        | (cases h3; done)
        | exact this.2.1
  · obtain ⟨h1, h2⟩ := take_get hi
    rcases hk with hk | ⟨j, o', h3, h4, h5, h6⟩
    · exact r.out i o h2 hh hk
    · exact r.inj i j o o' h2 h4 (by omega) hh h5 h6
  · obtain ⟨h1, h2⟩ := take_get hi
    rw [hlen]
    exact (r.obj i o h2).re (hn i o h1 h2) (nmO_true (fun _ => rfl) o) (Nat.le_refl _) (fun _ _ _ hv => hv) (fun _ _ => rfl) (fun _ => rfl)

/-- What was worked on, and the others. -/
theorem Rel.join {ρ ρ' : Nat → Ph} {H h1 : LH} {w w' : World} (r : Rel P w0 ρ H w) {n : Nat} (hl : h1.length = n) (hH : n ≤ H.length) (r' : Rel P ⟨w, w0.B, Fk w0 ρ n H⟩ ρ' h1 w')
    (hn : ∀ i o, n ≤ i → H[i]? = some o → nmO (fun q => (if q < n then ρ' q else ρ q) = ρ q) o) : Rel P w0 (fun q => if q < n then ρ' q else ρ q) (h1 ++ H.drop n) w' := by
  have hlen : (h1 ++ H.drop n).length = H.length := by rw [List.length_append, List.length_drop, hl]; omega
  have key : ∀ (i : Nat) (o : LO), (h1 ++ H.drop n)[i]? = some o → (i < n ∧ h1[i]? = some o) ∨ (n ≤ i ∧ H[i]? = some o) := by
    intro i o hi
    rcases Nat.lt_or_ge i n with hlt | hge
    · rw [List.getElem?_append_left (by omega)] at hi; exact .inl ⟨hlt, hi⟩
    · rw [List.getElem?_append_right (by omega), List.getElem?_drop, hl, show n + (i - n) = i by omega] at hi
      exact .inr ⟨hge, hi⟩
  refine ⟨r.below.trans r'.below, r.hB, fun k hk => ?_, fun i o hi hh hk => ?_, fun i o hi => ?_, fun i j o o' hi hj hne k1 k2 => ?_⟩
  · obtain ⟨h2, h3⟩ := r.keep k hk
    exact ⟨h2, (r'.keep k (.inl hk)).2.trans h3⟩
  · rcases key i o hi with ⟨hlt, hi⟩ | ⟨hge, hi⟩
    · simp only [if_pos hlt] at hk; exact r'.out i o hi hh (.inl hk)
    · simp only [if_neg (show ¬ i < n by omega)] at hk; exact r.out i o hi hh hk
  · rw [hlen]
    rcases key i o hi with ⟨hlt, hi⟩ | ⟨hge, hi⟩
    · simp only [if_pos hlt]
      have hob := r'.obj i o hi
      have hnm := hob.nm
      rw [hl] at hnm
      exact hob.re (nmO_mono (fun q hq => by omega) hnm) (nmO_mono (fun q hq => if_pos hq) hnm) (Nat.le_refl _) (fun _ _ _ hv => hv) (fun _ _ => rfl) (fun _ => rfl)
    · simp only [if_neg (show ¬ i < n by omega)]
      have hob := r.obj i o hi
      have hcell : (o.holds = true ∨ (ρ i).blk < w0.B) → ∀ j v, w.cell? ⟨(ρ i).blk, j, none⟩ = some v → w'.cell? ⟨(ρ i).blk, j, none⟩ = some v := by
        intro hk j v hv
        rcases hk with hk | hk
        · have := (r'.keep (ρ i).blk (.inr ⟨i, o, hge, hi, hk, rfl⟩)).2
          have e : w'.cell? ⟨(ρ i).blk, j, none⟩ = w.cell? ⟨(ρ i).blk, j, none⟩ := by
            simp only [World.cell?, this]
          rw [e]; exact hv
        · have e : w'.cell? ⟨(ρ i).blk, j, none⟩ = w.cell? ⟨(ρ i).blk, j, none⟩ := Below.cell (p := ⟨(ρ i).blk, j, none⟩) r'.below hk
          rw [e]; exact hv
      refine hob.re hob.nm (hn i o hge hi) r'.below.size hcell (fun hk j => ?_) (fun hk => (r'.keep (ρ i).blk (.inr ⟨i, o, hge, hi, (by cases o <;> first | rfl | cases hk), rfl⟩)).2)
      have := (r'.keep (ρ i).blk (.inr ⟨i, o, hge, hi, hk, rfl⟩)).2
      simp only [World.frozen?, this]
  · rcases key i o hi with ⟨l1, a1⟩ | ⟨g1, a1⟩ <;> rcases key j o' hj with ⟨l2, a2⟩ | ⟨g2, a2⟩
    · simp only [if_pos l1, if_pos l2]; exact r'.inj i j o o' a1 a2 hne k1 k2
    · simp only [if_pos l1, if_neg (show ¬ j < n by omega)]
      intro e
      exact r'.out i o a1 k1 (.inr ⟨j, o', g2, a2, k2, e⟩)
    · simp only [if_pos l2, if_neg (show ¬ i < n by omega)]
      intro e
      exact r'.out j o' a2 k2 (.inr ⟨i, o, g1, a1, k1, e.symm⟩)
    · simp only [if_neg (show ¬ i < n by omega), if_neg (show ¬ j < n by omega)]; exact r.inj i j o o' a1 a2 hne k1 k2

/-! ### What an operation's value names -/
theorem nl_nmS {S : Nat → Prop} {v : SV} (h : nlS v = true) : nmS S v := by cases v <;> first | exact trivial | cases h
theorem nl_nmL {S : Nat → Prop} {l : List SV} (h : l.all nlS = true) : nmL S l := nmL_iff.2 fun v hv => nl_nmS (List.all_eq_true.1 h v hv)
theorem nl_nmV {S : Nat → Prop} {v : FV} (h : nlV v = true) : nmV S v := by
  cases v with
  | s v => exact nl_nmS h
  | agg l => exact nl_nmL h
  | tup l =>
    cases l with
    | nil => trivial
    | cons x r => cases h

section
variable {S : Nat → Prop} {fr : Fr}
def FrN (S : Nat → Prop) (fr : Fr) : Prop := ∀ t v, fget fr t = some v → nmV S v

theorem od_nm (hF : FrN S fr) {x : OD} (hc : nlD x = true) {v : FV} (he : odE fr x = some v) : nmV S v := by
  cases x with
  | t n => exact hF n v he
  | c u => obtain rfl := Option.some.inj he; exact nl_nmV hc
theorem ods_nm (hF : FrN S fr) {x : OD} (hc : nlD x = true) {v : SV} (he : odS fr x = some v) : nmS S v := od_nm hF hc (odS_some he)
theorem odl_nm (hF : FrN S fr) : ∀ {l : List OD}, l.all nlD = true → ∀ {vs : List FV}, odL fr l = some vs → ∀ v ∈ vs, nmV S v
  | [], _, vs, he => by simp only [odL, Option.some.injEq] at he; subst he; simp
  | x :: r, hc, vs, he => by
    simp only [List.all_cons, Bool.and_eq_true] at hc
    simp only [odL] at he
    split at he
    · rename_i u hu
      obtain ⟨ys, hy, rfl⟩ := Option.map_eq_some_iff.1 he
      intro v hv
      rcases List.mem_cons.1 hv with rfl | hv
      · exact od_nm hF hc.1 hu
      · exact odl_nm hF hc.2 hy v hv
    · cases he
theorem cells_nm {v : FV} {l : List SV} (hv : nmV S v) (h : fcells v = some l) : nmL S l := by
  cases v with
  | s v => simp only [fcells, Option.some.injEq] at h; subst h; exact ⟨hv, trivial⟩
  | agg m => simp only [fcells, Option.some.injEq] at h; subst h; exact hv
  | tup l => cases h
theorem odc_nm (hF : FrN S fr) {x : OD} (hc : nlD x = true) {l : List SV} (he : (odE fr x).bind fcells = some l) : nmL S l := by
  obtain ⟨v, h1, h2⟩ := Option.bind_eq_some_iff.1 he
  exact cells_nm (od_nm hF hc h1) h2
theorem setL_nm : ∀ {l vs : List SV} {o : Nat}, nmL S vs → nmL S l → nmL S (setL vs o l)
  | [], vs, o, hv, _ => hv
  | c :: r, vs, o, hv, hl => by
    simp only [setL]
    refine setL_nm (nmL_iff.2 fun v hm => ?_) hl.2
    rcases List.mem_or_eq_of_mem_set hm with hm | rfl
    · exact nmL_iff.1 hv v hm
    · exact hl.1
theorem fill_nm (hF : FrN S fr) : ∀ {ps : List (Nat × Nat × OD)} {cs l : List SV}, (ps.all fun p => nlD p.2.2) = true → nmL S cs → fillE fr cs ps = some l → nmL S l
  | [], cs, l, _, hv, he => by simp only [fillE, Option.some.injEq] at he; subst he; exact hv
  | (o, n, x) :: r, cs, l, hc, hv, he => by
    simp only [List.all_cons, Bool.and_eq_true] at hc
    simp only [fillE] at he
    split at he
    · rename_i m hm
      split at he
      · split at he
        · exact fill_nm hF hc.2 (setL_nm hv (odc_nm hF hc.1 hm)) he
        · cases he
      · cases he
    · cases he
theorem rep_nm {n : Nat} {z : List SV} (h : nmL S z) : nmL S (rep n z) := by
  refine nmL_iff.2 fun v hv => ?_
  obtain ⟨l, h1, h2⟩ := List.mem_flatten.1 hv
  rw [List.eq_of_mem_replicate h1] at h2
  exact nmL_iff.1 h v h2
theorem bin_nm {op : BinOp} {a b v : SV} (h : binE op a b = some v) : nmS S v := by
  cases v <;> first
    | exact trivial
    | (exfalso; revert h; cases a <;> cases b <;> simp only [binE] <;> (try (intro h; cases h; done)) <;> (try unfold intOp) <;> (try unfold shOp) <;> (try unfold strOp) <;> (try unfold fltOp) <;> (try unfold cplOp) <;> (repeat' split) <;> intro h <;> cases h)
theorem un_nm {op : UnOp} {a v : SV} (h : unE op a = some v) : nmS S v := by
  unfold unE at h
  split at h <;> first
    | (obtain rfl := Option.some.inj h; exact trivial)
    | cases h
theorem mn_nm {k : IntKind} : ∀ {l : List SV} {a : Int} {v : SV}, minE k a l = some v → nmS S v
  | [], a, v, h => by simp only [minE, Option.some.injEq] at h; subst h; trivial
  | x :: r, a, v, h => by
    cases x <;> simp only [minE] at h <;> first
      | exact mn_nm h
      | cases h
theorem mx_nm {k : IntKind} : ∀ {l : List SV} {a : Int} {v : SV}, maxE k a l = some v → nmS S v
  | [], a, v, h => by simp only [maxE, Option.some.injEq] at h; subst h; trivial
  | x :: r, a, v, h => by
    cases x <;> simp only [maxE] at h <;> first
      | exact mx_nm h
      | cases h

/-- An operation that changes nothing tells no object that its frame, or an object it reads, does not name. -/
theorem op_nm {h h' : LH} {op : EO} {v : FV} (hc : changesE op = false) (hn : nlE op = true) (hF : FrN S fr) (hH : ∀ p o, S p → h[p]? = some o → nmO S o) (he : opE fr h op = some (v, h')) : nmV S v := by
  have hcells : ∀ p t vs, S p → cellsOf h p = some (t, vs) → nmL S vs := by
    intro p t vs hp hq
    unfold cellsOf at hq
    split at hq
    · rename_i t' vs' ho
      obtain ⟨rfl, rfl⟩ := Prod.mk.inj (Option.some.inj hq)
      exact hH p _ hp ho
    · rename_i t' vs' ho
      obtain ⟨rfl, rfl⟩ := Prod.mk.inj (Option.some.inj hq)
      exact hH p _ hp ho
    · cases hq
  cases op <;> first
    | (cases hc; done)
    | skip
  case mov x =>
    simp only [opE] at he
    obtain ⟨u, hu, e⟩ := Option.map_eq_some_iff.1 he
    obtain ⟨rfl, _⟩ := Prod.mk.inj e
    exact od_nm hF hn hu
  case nilc x =>
    simp only [opE] at he
    split at he
    · rename_i i o hx
      obtain ⟨rfl, _⟩ := Prod.mk.inj (Option.some.inj he)
      exact ods_nm hF hn hx
    · cases he
  case nilf x =>
    simp only [opE] at he
    split at he
    · rename_i i hx
      split at he
      · obtain ⟨rfl, _⟩ := Prod.mk.inj (Option.some.inj he)
        exact ods_nm hF hn hx
      · cases he
    · rename_i f hx
      obtain ⟨rfl, _⟩ := Prod.mk.inj (Option.some.inj he)
      trivial
    · cases he
  case pick c a b =>
    simp only [nlE, Bool.and_eq_true] at hn
    simp only [opE] at he
    split at he
    · rename_i t x y h1 h2 h3
      obtain ⟨rfl, _⟩ := Prod.mk.inj (Option.some.inj he)
      split
      · exact od_nm hF hn.1.2 h2
      · exact od_nm hF hn.2 h3
    · cases he
  case load agg n a =>
    simp only [opE] at he
    split at he
    · rename_i i o hx
      split at he
      · rename_i t vs hcl
        have hs := hcells i t vs (ods_nm hF hn hx) hcl
        split at he
        · split at he
          · obtain ⟨rfl, _⟩ := Prod.mk.inj (Option.some.inj he)
            exact nmL_iff.2 fun v hv => nmL_iff.1 hs v (List.mem_of_mem_drop (List.mem_of_mem_take hv))
          · cases he
        · split at he
          · rename_i u hu
            obtain ⟨rfl, _⟩ := Prod.mk.inj (Option.some.inj he)
            exact nmL_iff.1 hs u (List.mem_of_getElem? hu)
          · cases he
      · cases he
    · cases he
  case build z ps =>
    simp only [nlE, Bool.and_eq_true] at hn
    simp only [opE] at he
    obtain ⟨l, hl, e⟩ := Option.map_eq_some_iff.1 he
    obtain ⟨rfl, _⟩ := Prod.mk.inj e
    exact fill_nm hF hn.2 (nl_nmL hn.1) hl
  case bin op x y =>
    simp only [opE] at he
    split at he
    · obtain ⟨l, hl, e⟩ := Option.map_eq_some_iff.1 he
      obtain ⟨rfl, _⟩ := Prod.mk.inj e
      exact bin_nm hl
    · cases he
  case eqb q x y =>
    simp only [opE] at he
    split at he
    · obtain ⟨rfl, _⟩ := Prod.mk.inj (Option.some.inj he)
      trivial
    · cases he
  case eqp q x y =>
    simp only [opE] at he
    split at he
    · obtain ⟨l, hl, e⟩ := Option.map_eq_some_iff.1 he
      obtain ⟨rfl, _⟩ := Prod.mk.inj e
      trivial
    · cases he
  case eqn q x y =>
    simp only [opE] at he
    split at he
    · obtain ⟨l, hl, e⟩ := Option.map_eq_some_iff.1 he
      obtain ⟨rfl, _⟩ := Prod.mk.inj e
      trivial
    · cases he
  case eqs q l x y =>
    simp only [opE] at he
    split at he
    · obtain ⟨l, hl, e⟩ := Option.map_eq_some_iff.1 he
      obtain ⟨rfl, _⟩ := Prod.mk.inj e
      trivial
    · cases he
  case un op x =>
    simp only [opE] at he
    split at he
    · obtain ⟨l, hl, e⟩ := Option.map_eq_some_iff.1 he
      obtain ⟨rfl, _⟩ := Prod.mk.inj e
      exact un_nm hl
    · cases he
  case sli t z x lo hi =>
    simp only [nlE, Bool.and_eq_true] at hn
    simp only [opE] at he
    split at he
    · split at he
      · obtain ⟨rfl, _⟩ := Prod.mk.inj (Option.some.inj he)
        trivial
      · cases he
    · rename_i i p o n hx
      have hs : S i := ods_nm hF hn.1.1 hx
      (repeat' split at he) <;> first
        | (cases he; done)
        | (obtain ⟨rfl, _⟩ := Prod.mk.inj (Option.some.inj he); exact hs)
    · cases he
  case mlen x =>
    simp only [opE] at he
    (repeat' split at he) <;> first
      | (cases he; done)
      | (obtain ⟨rfl, _⟩ := Prod.mk.inj (Option.some.inj he); trivial)
  case mget q ok z m k =>
    simp only [nlE, Bool.and_eq_true] at hn
    simp only [opE] at he
    split at he
    · rename_i i u hm hk
      split at he
      · rename_i es hi
        split at he
        · split at he
          · rename_i r hg
            obtain ⟨rfl, _⟩ := Prod.mk.inj (Option.some.inj he)
            have hs := hH i _ (ods_nm (v := .mp i) hF hn.1.2 hm) hi
            have hv : nmS S (r.getD z) := by
              cases r with
              | none => exact nl_nmS hn.1.1
              | some v =>
                obtain ⟨x, x1, rfl⟩ := get_mem hg
                exact hs x x1
            split
            · exact ⟨hv, trivial, trivial⟩
            · exact hv
          · cases he
        · cases he
      · cases he
    · cases he
  case sli0 x =>
    simp only [opE] at he
    split at he
    · obtain ⟨rfl, _⟩ := Prod.mk.inj (Option.some.inj he); trivial
    · rename_i hx
      obtain ⟨rfl, _⟩ := Prod.mk.inj (Option.some.inj he)
      exact ods_nm hF hn hx
    · rename_i hx
      obtain ⟨rfl, _⟩ := Prod.mk.inj (Option.some.inj he)
      exact ods_nm hF hn hx
    · cases he
  case fad o x =>
    simp only [opE] at he
    split at he
    · rename_i hx
      obtain ⟨rfl, _⟩ := Prod.mk.inj (Option.some.inj he)
      exact ods_nm hF hn hx
    · cases he
  case fld agg o n x =>
    simp only [opE] at he
    split at he
    · rename_i l hx
      have hs : nmL S l := od_nm hF hn hx
      split at he
      · split at he
        · obtain ⟨rfl, _⟩ := Prod.mk.inj (Option.some.inj he)
          exact nmL_iff.2 fun v hv => nmL_iff.1 hs v (List.mem_of_mem_drop (List.mem_of_mem_take hv))
        · cases he
      · split at he
        · rename_i u hu
          obtain ⟨rfl, _⟩ := Prod.mk.inj (Option.some.inj he)
          exact nmL_iff.1 hs u (List.mem_of_getElem? hu)
        · cases he
    · cases he
  case iad t z x i =>
    simp only [nlE, Bool.and_eq_true] at hn
    simp only [opE] at he
    split at he
    · rename_i hx hi
      have hs := ods_nm hF hn.1 hx
      (repeat' split at he) <;> first
        | (cases he; done)
        | (obtain ⟨rfl, _⟩ := Prod.mk.inj (Option.some.inj he); exact hs)
    · cases he
  case ext x i =>
    simp only [opE] at he
    split at he
    · rename_i l hx
      have hs : nmVL S l := od_nm hF hn hx
      split at he
      · rename_i u hu
        obtain ⟨rfl, _⟩ := Prod.mk.inj (Option.some.inj he)
        exact nmVL_iff.1 hs u (List.mem_of_getElem? hu)
      · cases he
    · cases he
  case mn x l =>
    simp only [opE] at he
    split at he
    · obtain ⟨u, hu, e⟩ := Option.map_eq_some_iff.1 he
      obtain ⟨rfl, _⟩ := Prod.mk.inj e
      exact mn_nm hu
    · cases he
  case mx x l =>
    simp only [opE] at he
    split at he
    · obtain ⟨u, hu, e⟩ := Option.map_eq_some_iff.1 he
      obtain ⟨rfl, _⟩ := Prod.mk.inj e
      exact mx_nm hu
    · cases he
  all_goals
    simp only [opE] at he
    (repeat' split at he) <;> first
      | (cases he; done)
      | (obtain ⟨rfl, _⟩ := Prod.mk.inj (Option.some.inj he); exact trivial)
      | (obtain ⟨u, hu, e⟩ := Option.map_eq_some_iff.1 he
         obtain ⟨rfl, _⟩ := Prod.mk.inj e
         exact trivial)
end
end Go.Proofs.YtiljgimcipdadaaGreatDoor.Ev
