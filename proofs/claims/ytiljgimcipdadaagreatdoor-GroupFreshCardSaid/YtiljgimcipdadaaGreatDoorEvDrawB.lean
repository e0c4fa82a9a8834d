/- Regions whose order is open: any order tells what the chosen one tells. -/
import Derived.Test.YtiljgimcipdadaaGreatDoorEvDrawA
set_option linter.unusedVariables false
set_option linter.unusedSimpArgs false
namespace Go.Proofs.YtiljgimcipdadaaGreatDoor.Ev
open Go Go.RowKit

variable {P : Program} {w0 : Base}

/-- What stays so whatever is run. -/
def Stays (P : Program) (G : Base → Prop) : Prop := ∀ (w0 : Base) (ρ : Nat → Ph) (h : LH) (w : World) (F : Nat → Prop), Rel P w0 ρ h w → G w0 → G ⟨w, w0.B, F⟩

def Bf (ops : Array Oper) (x y : Nat) : Bool := ((Region.before ops).getD x 0).testBit y

theorem mem_pairs {ops : Array Oper} {ord : List Nat} {gs : List EG} {i j : Nat} {g g' : EG} (hi : gs[i]? = some g) (hj : gs[j]? = some g') (hl : looksE g.op = true) (hpa : paE g.op = false) (hc : changesE g'.op = true) (hne : i ≠ j)
    (h1 : Bf ops (ord.getD j 0) (ord.getD i 0) = false) (h2 : Bf ops (ord.getD i 0) (ord.getD j 0) = false) (h3 : paE g'.op = false ∨ j < i) : (i, j) ∈ pairsOf ops ord gs := by
  unfold pairsOf
  refine List.mem_flatMap.2 ⟨i, List.mem_range.2 (List.getElem?_eq_some_iff.1 hi).1, ?_⟩
  simp only [hi, hl, hpa, Bool.not_false, Bool.and_true, if_true]
  refine List.mem_filterMap.2 ⟨j, List.mem_range.2 (List.getElem?_eq_some_iff.1 hj).1, ?_⟩
  unfold Bf at h1 h2
  have h4 : (paE g'.op && decide (i < j)) = false := by
    rcases h3 with h | h
    · rw [h]; rfl
    · rw [decide_eq_false (by omega), Bool.and_false]
  simp only [hj, hc, h1, h2, h4]
  simp [hne]

/-- What the check of a region says. -/
structure DOk (P : Program) (N : Nat) (ops : Array Oper) (π : Nat → Nat) (gs : List EG) : Prop where
  size : ops.size = gs.length
  lt : ∀ i, i < gs.length → π i < gs.length
  surj : ∀ x, x < gs.length → ∃ i, i < gs.length ∧ π i = x
  inj : ∀ i j, i < gs.length → j < gs.length → π i = π j → i = j
  after : ∀ i o, i < gs.length → ops[π i]? = some o → ∀ e ∈ o.after, Region.binds .any e = true → ∃ j, j < i ∧ π j = e.on
  nl : ∀ (i : Nat) (g : EG), gs[i]? = some g → nlE g.op = true
  slots : ∀ (i j d : Nat) (g g' : EG), gs[i]? = some g → gs[j]? = some g' → g'.dst = some d → (i ≠ j → g.dst ≠ some d) ∧ (d ∈ slotsG g → i = j ∨ Bf ops (π i) (π j) = true ∨ Bf ops (π j) (π i) = true)
  get : ∀ i, i < gs.length → ∃ o g, ops[π i]? = some o ∧ gs[i]? = some g ∧ compG P N ops o = some g

theorem compL_get {N : Nat} {ops : Array Oper} : ∀ {l : List Oper} {gs : List EG}, compL P N ops l = some gs → l.length = gs.length ∧ ∀ (i : Nat) (o : Oper), l[i]? = some o → ∃ g, gs[i]? = some g ∧ compG P N ops o = some g
  | [], gs, h => by
    simp only [compL, Option.some.injEq] at h
    subst h; simp
  | o :: l, gs, h => by
    simp only [compL] at h
    split at h
    · rename_i g hg
      obtain ⟨gs', hgs, rfl⟩ := Option.map_eq_some_iff.1 h
      obtain ⟨h1, h2⟩ := compL_get hgs
      refine ⟨by simp [h1], fun i o' hi => ?_⟩
      cases i with
      | zero => obtain rfl := Option.some.inj hi; exact ⟨g, rfl, hg⟩
      | succ i => exact h2 i o' hi
    · cases h


theorem drawOk_ok {N : Nat} {ops : Array Oper} {l0 : List EG} (hc : compL P N ops ops.toList = some l0) {ord : List Nat} (hd : drawOk ops ord (permG ord l0) = true) : DOk P N ops (fun i => ord.getD i 0) (permG ord l0) := by
  obtain ⟨hlen, hget⟩ := compL_get hc
  have hsz : ops.size = l0.length := by rw [← hlen]; simp
  unfold drawOk at hd
  simp only [Bool.and_eq_true] at hd
  obtain ⟨⟨⟨d1, d2⟩, d3⟩, d4⟩ := hd
  have hol : ord.length = ops.size := by simpa using d1
  have hgl : (permG ord l0).length = ord.length := by simp [permG]
  have hlt : ∀ i, i < ord.length → ord.getD i 0 < ops.size := by
    intro i hi
    rw [List.getD_eq_getElem?_getD, List.getElem?_eq_getElem hi]
    have := List.all_eq_true.1 d3 _ (List.getElem_mem hi)
    simpa using this
  have hgs : ∀ i, i < ord.length → (permG ord l0)[i]? = l0[ord.getD i 0]? := by
    intro i hi
    have h1 := hlt i hi
    rw [List.getD_eq_getElem?_getD, List.getElem?_eq_getElem hi] at h1
    simp only [Option.getD_some] at h1
    simp only [permG, List.getElem?_map, List.getElem?_eq_getElem hi, Option.map_some, List.getD_eq_getElem?_getD, Option.getD_some]
    rw [List.getElem?_eq_getElem (by omega)]
    rfl
  have hall := fun i (hi : i < (permG ord l0).length) => List.all_eq_true.1 d4 i (List.mem_range.2 hi)
  refine ⟨by omega, fun i hi => ?_, fun x hx => ?_, fun i j hi hj he => ?_, fun i o hi ho e hee hb => ?_, fun i g hg => ?_, fun i j d g g' hi hj hdst => ?_, fun i hi => ?_⟩
  · have := hlt i (by omega); omega
  · have := List.all_eq_true.1 d2 x (List.mem_range.2 (by omega))
    have hm : x ∈ ord := by simpa using this
    obtain ⟨i, hi⟩ := List.mem_iff_getElem?.1 hm
    have hil := (List.getElem?_eq_some_iff.1 hi).1
    exact ⟨i, by omega, by rw [List.getD_eq_getElem?_getD, hi]; rfl⟩
  · have := hall i hi
    rw [Bool.and_eq_true] at this
    have h2 := this.2
    rw [List.getElem?_eq_getElem hi] at h2
    simp only [Bool.and_eq_true] at h2
    have h3 := List.all_eq_true.1 h2.2 j (List.mem_range.2 hj)
    simp only [Bool.and_eq_true] at h3
    have h4 := h3.1
    apply Classical.byContradiction
    intro hne
    have he' : ord.getD i 0 = ord.getD j 0 := he
    rw [Bool.or_eq_true] at h4
    rcases h4 with h4 | h4
    · exact hne (by simpa using h4)
    · rw [he'] at h4; simp at h4
  · have := hall i hi
    rw [Bool.and_eq_true] at this
    have h1 := this.1
    have ho' : ops[ord.getD i 0]? = some o := ho
    simp only [ho'] at h1
    have h2 := Array.all_eq_true_iff_forall_mem.1 h1 e hee
    rw [hb] at h2
    have hm : e.on ∈ ord.take i := by simpa using h2
    obtain ⟨j, hj⟩ := List.mem_iff_getElem?.1 hm
    rw [List.getElem?_take] at hj
    split at hj
    · rename_i hji
      exact ⟨j, hji, by show ord.getD j 0 = e.on; rw [List.getD_eq_getElem?_getD, hj]; rfl⟩
    · cases hj
  · have hi := (List.getElem?_eq_some_iff.1 hg).1
    have := hall i hi
    rw [Bool.and_eq_true] at this
    have h2 := this.2
    simp only [hg, Bool.and_eq_true] at h2
    exact h2.1
  · have hil := (List.getElem?_eq_some_iff.1 hi).1
    have hjl := (List.getElem?_eq_some_iff.1 hj).1
    have := hall i hil
    rw [Bool.and_eq_true] at this
    have h2 := this.2
    simp only [hi, Bool.and_eq_true] at h2
    have h3 := List.all_eq_true.1 h2.2 j (List.mem_range.2 hjl)
    simp only [Bool.and_eq_true, hj, hdst] at h3
    obtain ⟨_, h4, h5⟩ := h3
    refine ⟨fun hne hq => ?_, fun hm => ?_⟩
    · simp [hne, hq] at h4
    · simpa [hm, or_assoc, Bf] using h5
  · have hio : ord.getD i 0 < ops.size := hlt i (by omega)
    obtain ⟨g, hg, hcg⟩ := hget (ord.getD i 0) ops[ord.getD i 0] (by simp [hio])
    exact ⟨_, g, Array.getElem?_eq_getElem hio, by rw [hgs i (by omega)]; exact hg, hcg⟩

theorem mem_keep {fr : Fr} {keep : List Nat} {t : Nat} {v : FV} (h : fget (keepF keep fr) t = some v) : t ∈ keep := by
  induction keep with
  | nil => cases h
  | cons k r ih =>
    simp only [keepF, List.map_cons, fget] at h
    by_cases e : t = k
    · rw [e]; exact List.mem_cons_self
    · rw [if_neg e] at h; exact List.mem_cons_of_mem _ (ih h)

theorem filter_lt {p q : Nat → Bool} : ∀ (l : List Nat) (i : Nat), i ∈ l → (∀ j, q j = true → p j = true) → p i = true → q i = false → (l.filter q).length < (l.filter p).length
  | [], i, h, _, _, _ => by cases h
  | x :: l, i, h, hpq, hp, hq => by
    have hle : ∀ l : List Nat, (l.filter q).length ≤ (l.filter p).length := by
      intro l
      induction l with
      | nil => exact Nat.le_refl _
      | cons y l ih =>
        simp only [List.filter_cons]
        cases hqy : q y with
        | true => rw [hpq y hqy]; simpa using ih
        | false =>
          cases p y
          · simpa using ih
          · simp only [Bool.false_eq_true, if_false, if_true, List.length_cons]; omega
    rcases List.mem_cons.1 h with rfl | hm
    · simp only [List.filter_cons, hp, hq, Bool.false_eq_true, if_false, if_true, List.length_cons]
      have := hle l; omega
    · have ih := filter_lt l i hm hpq hp hq
      simp only [List.filter_cons]
      cases hqx : q x with
      | true => rw [hpq x hqx]; simpa using ih
      | false =>
        cases p x
        · simpa using ih
        · simp only [Bool.false_eq_true, if_false, if_true, List.length_cons]; omega

section
variable {ρ : Nat → Ph} {h : LH} {w : World} {N : Nat} {fr : Fr} {a : Act} {Q : Exit → Act → World → Prop}

theorem frs_get {call : CallE} {gs : List EG} {fr' : Fr} {h' : LH} {frs : Nat → Fr} {hs : Nat → LH} {val : Nat → FV} {want : Nat → Bool} {tr : List (Option TE)} (T : Tr call gs fr h fr' h' frs hs val want tr) : ∀ i, i ≤ gs.length → ∀ t v, fget (frs i) t = some v → (∃ j g, j < i ∧ gs[j]? = some g ∧ g.dst = some t ∧ v = val j) ∨ ((∀ j g, j < i → gs[j]? = some g → g.dst ≠ some t) ∧ fget fr t = some v)
  | 0, _, t, v, hg => by
    rw [T.fr0] at hg
    exact .inr ⟨fun j g hj => absurd hj (Nat.not_lt_zero _), hg⟩
  | i + 1, hi, t, v, hg => by
    have hgi : gs[i]? = some gs[i] := List.getElem?_eq_getElem hi
    rw [T.next i _ hgi] at hg
    cases hdst : gs[i].dst with
    | none =>
      rw [hdst] at hg
      rcases frs_get T i (by omega) t v hg with ⟨j, g, h1, h2⟩ | ⟨h1, h2⟩
      · exact .inl ⟨j, g, by omega, h2⟩
      · refine .inr ⟨fun j g hj hjg => ?_, h2⟩
        by_cases e : j = i
        · subst e
          rw [hgi] at hjg
          obtain rfl := Option.some.inj hjg
          rw [hdst]; simp
        · exact h1 j g (by omega) hjg
    | some d =>
      rw [hdst] at hg
      simp only [fput, fget] at hg
      by_cases e : t = d
      · rw [if_pos e] at hg
        exact .inl ⟨i, _, by omega, hgi, by rw [hdst, e], (Option.some.inj hg).symm⟩
      · rw [if_neg e] at hg
        rcases frs_get T i (by omega) t v hg with ⟨j, g, h1, h2⟩ | ⟨h1, h2⟩
        · exact .inl ⟨j, g, by omega, h2⟩
        · refine .inr ⟨fun j g hj hjg => ?_, h2⟩
          by_cases e' : j = i
          · subst e'
            rw [hgi] at hjg
            obtain rfl := Option.some.inj hjg
            rw [hdst]
            intro hq
            exact e (Option.some.inj hq).symm
          · exact h1 j g (by omega) hjg

theorem hs_const {hs : Nat → LH} {x : Nat} : ∀ y, x ≤ y → (∀ k, x ≤ k → k < y → hs (k + 1) = hs k) → hs y = hs x := by
  intro y
  induction y with
  | zero => intro h _; rw [Nat.le_zero.1 h]
  | succ y ih =>
    intro h hk
    by_cases e : x = y + 1
    · rw [e]
    · rw [hk y (by omega) (by omega), ih (by omega) (fun k h1 h2 => hk k h1 (by omega))]

/-- The last place below y at which the heap changes. -/
theorem last_change (hs : Nat → LH) (x : Nat) : ∀ y, x ≤ y → hs y ≠ hs x → ∃ k, x ≤ k ∧ k < y ∧ hs (k + 1) ≠ hs k ∧ hs (k + 1) = hs y := by
  intro y
  induction y with
  | zero => intro h hne; rw [Nat.le_zero.1 h] at hne; exact absurd rfl hne
  | succ y ih =>
    intro h hne
    by_cases e : hs (y + 1) = hs y
    · by_cases e' : x = y + 1
      · rw [e'] at hne; exact absurd rfl hne
      · obtain ⟨k, h1, h2, h3, h4⟩ := ih (by omega) (by rw [← e]; exact hne)
        exact ⟨k, h1, by omega, h3, by rw [h4, e]⟩
    · by_cases e' : x = y + 1
      · rw [e'] at hne; exact absurd rfl hne
      · exact ⟨y, by omega, by omega, e, rfl⟩

/-- The first place from x on. -/
theorem first_change (hs : Nat → LH) (x : Nat) : ∀ y, x ≤ y → hs y ≠ hs x → ∃ k, x ≤ k ∧ k < y ∧ hs (k + 1) ≠ hs k ∧ hs k = hs x := by
  intro y
  induction y with
  | zero => intro h hne; rw [Nat.le_zero.1 h] at hne; exact absurd rfl hne
  | succ y ih =>
    intro h hne
    by_cases e' : x = y + 1
    · rw [e'] at hne; exact absurd rfl hne
    · by_cases e : hs y = hs x
      · exact ⟨y, by omega, by omega, by rw [e]; exact hne, e⟩
      · obtain ⟨k, h1, h2, h3, h4⟩ := ih (by omega) e
        exact ⟨k, h1, by omega, h3, h4⟩

def listed (L : Array Bool) (i : Nat) : Prop := L.getD i false = true

theorem listed_set {L : Array Bool} {i j : Nat} (hi : i < L.size) : listed (L.setIfInBounds i true) j ↔ j = i ∨ listed L j := by
  unfold listed
  by_cases e : i = j
  · subst e
    simp [Array.getD_eq_getD_getElem?, Array.getElem?_setIfInBounds, hi]
  · rw [Array.getD_eq_getD_getElem?, Array.getElem?_setIfInBounds_ne e, ← Array.getD_eq_getD_getElem?]
    constructor
    · exact .inr
    · rintro (rfl | h)
      · exact absurd rfl e
      · exact h


/-- What a slot holds when the operations of a set are done, and how far the machine was then. -/
def Kn (gs : List EG) (fr : Fr) (val : Nat → FV) (E : Nat → Prop) (t : Nat) (v : FV) (p : Nat) : Prop :=
  (∃ i g, E i ∧ gs[i]? = some g ∧ g.dst = some t ∧ v = val i ∧ p = i + 1) ∨ ((∀ i g, E i → gs[i]? = some g → g.dst ≠ some t) ∧ fget fr t = some v ∧ p = 0)

/-- An operation that is done ahead of its turn. -/
def Early (hs : Nat → LH) (n : Nat) (E : Nat → Prop) (m k : Nat) : Prop := m ≤ k ∧ k < n ∧ E k ∧ hs (k + 1) ≠ hs k

/-- The objects that are there. -/
def Live (hs : Nat → LH) (n : Nat) (E : Nat → Prop) (m q : Nat) : Prop := q < (hs m).length ∨ ∃ k, Early hs n E m k ∧ q = (hs k).length

/-- The machine's heap at m, and the objects made ahead of their turn, each in its place. -/
structure Pad (hs : Nat → LH) (n : Nat) (E : Nat → Prop) (m : Nat) (H : LH) : Prop where
  len : H.length = (hs n).length
  old : ∀ q, q < (hs m).length → H[q]? = (hs m)[q]?
  onm : ∀ (q : Nat) (o : LO), (hs m)[q]? = some o → nmO (· < (hs m).length) o
  early : ∀ k, Early hs n E m k → H[(hs k).length]? = (hs (k + 1))[(hs k).length]?
  enm : ∀ (k : Nat) (o : LO), Early hs n E m k → H[(hs k).length]? = some o → nmO (· < (hs k).length) o ∧ nmO (Live hs n E m) o
  dead : ∀ q, (hs m).length ≤ q → q < (hs n).length → (∀ k, Early hs n E m k → q ≠ (hs k).length) → H[q]? = some .dead

structure Inv (P : Program) (w0 : Base) (N : Nat) (ops : Array Oper) (π : Nat → Nat) (gs : List EG) (fr : Fr) (hs : Nat → LH) (val : Nat → FV) (ρ0 : Nat → Ph) (n0 : Nat) (L : Array Bool) (a : Act) (w : World) : Prop where
  size : L.size = ops.size
  closed : ∀ x y, listed L x → Bf ops x y = true → listed L y
  tsize : a.tmps.size = N
  defers : a.defers = []
  heap : ∃ ρ m H, m ≤ gs.length ∧ (m = 0 ∨ ∃ k g, m = k + 1 ∧ gs[k]? = some g ∧ paE g.op = false ∧ hs (k + 1) ≠ hs k) ∧ (∀ k, k < m → hs (k + 1) ≠ hs k → listed L (π k)) ∧
    (∀ k g, m ≤ k → gs[k]? = some g → listed L (π k) → hs (k + 1) ≠ hs k → paE g.op = true) ∧ Pad hs gs.length (fun k => listed L (π k)) m H ∧ Rel P w0 ρ H w ∧ Ext n0 ρ0 ρ ∧
    ∀ t v p, Kn gs fr val (fun k => listed L (π k)) t v p → t < N ∧ a.tmps.getD t undef = cv ρ v ∧ wfV ρ (hs (max m p)).length v ∧ nmV (Live hs gs.length (fun k => listed L (π k)) m) v ∧ p ≤ gs.length

theorem frLt_get {n : Nat} : ∀ {fr : Fr}, frLt n fr → FrN (· < n) fr
  | [], _, t, v, h => by cases h
  | (k, x) :: r, hl, t, v, h => by
    cases x with
    | none =>
      simp only [fget] at h
      split at h
      · cases h
      · exact frLt_get (show frLt n r from hl) t v h
    | some u =>
      simp only [fget] at h
      split at h
      · obtain rfl := Option.some.inj h; exact hl.1
      · exact frLt_get (show frLt n r from hl.2) t v h

theorem rd_nm {S : Nat → Prop} {fr : Fr} {op : EO} {p : Nat} (hn : nlE op = true) (hF : FrN S fr) (h : rdO fr op = some p) : S p := by
  cases op <;> simp only [rdO] at h <;> first
    | (cases h; done)
    | (split at h
       · rename_i hx
         obtain rfl := Option.some.inj h
         first
           | exact ods_nm (v := .ptr _ _) hF hn hx
           | exact ods_nm (v := .cl _) hF hn hx
           | exact ods_nm (v := .sl _ _ _ _) hF hn hx
           | (simp only [nlE, Bool.and_eq_true] at hn
              first
                | exact ods_nm (v := .sl _ _ _ _) hF hn.1 hx
                | exact ods_nm (v := .sl _ _ _ _) hF hn.1.1 hx
                | exact ods_nm (v := .mp _) hF hn.1.2 hx)
           | exact ods_nm (v := .mp _) hF hn hx
       · cases h)
theorem rd_lt {n : Nat} {fr : Fr} {op : EO} {p : Nat} (hn : nlE op = true) (hF : FrN (· < n) fr) (h : rdO fr op = some p) : p < n := rd_nm (S := fun q => q < n) hn hF h

theorem frLt_mono {n m : Nat} (hm : n ≤ m) : ∀ {fr : Fr}, frLt n fr → frLt m fr
  | [], _ => trivial
  | (k, none) :: r, h => frLt_mono hm (fr := r) h
  | (k, some v) :: r, h => ⟨nmV_mono (fun q hq => Nat.lt_of_lt_of_le hq hm) h.1, frLt_mono hm (fr := r) h.2⟩

theorem first_of (p : Nat → Prop) (h : ∃ k, p k) : ∃ k, p k ∧ ∀ j, j < k → ¬ p j := by
  obtain ⟨k, hk⟩ := h
  induction k using Nat.strongRecOn with
  | _ k ih =>
    by_cases e : ∃ j, j < k ∧ p j
    · obtain ⟨j, j1, j2⟩ := e
      exact ih j j1 j2
    · exact ⟨k, hk, fun j hj hp => e ⟨j, hj, hp⟩⟩
end
end Go.Proofs.YtiljgimcipdadaaGreatDoor.Ev
