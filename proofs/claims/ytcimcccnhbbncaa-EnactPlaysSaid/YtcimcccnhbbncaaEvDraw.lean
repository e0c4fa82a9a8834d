/- Regions whose order is open. -/
import Derived.Test.YtcimcccnhbbncaaEvCode
set_option linter.unusedVariables false
set_option linter.unusedSimpArgs false
namespace Go.Proofs.Ytcimcccnhbbncaa.Ev
open Go Go.RowKit

variable {P : Program} {w0 : World}

/-! ### Operations that do not look, or do not change -/
theorem nolook {fr : Fr} {h h' : LH} {op : EO} {v : FV} (hl : looksE op = false) (he : opE fr h op = some (v, h')) : h' = h ∧ ∀ h2, opE fr h2 op = some (v, h2) := by
  cases op <;> first
    | (cases hl; done)
    | (simp only [opE] at he ⊢
       constructor
       · (repeat' split at he) <;> simp_all [Option.map_eq_some_iff] <;> grind
       · intro h2
         (repeat' split at he) <;> simp_all [Option.map_eq_some_iff] <;> grind)

theorem nochange {fr : Fr} {h h' : LH} {op : EO} {v : FV} (hl : changesE op = false) (he : opE fr h op = some (v, h')) : h' = h := by
  cases op <;> first
    | (cases hl; done)
    | (simp only [opE] at he
       (repeat' split at he) <;> simp_all [Option.map_eq_some_iff] <;> grind)

theorem call_change {op : EO} (h : changesE op = false) : isCall op = false := by
  cases op <;> first
    | rfl
    | cases h

theorem look_call {op : EO} (h : looksE op = false) : isCall op = false := by
  cases op <;> first
    | rfl
    | cases h

theorem step_nolook {call : CallE} {fr : Fr} {h h' : LH} {op : EO} {v : FV} (hl : looksE op = false) (he : stepE call fr h op = some (v, h')) : h' = h ∧ ∀ h2, stepE call fr h2 op = some (v, h2) := by
  unfold stepE at he ⊢
  rw [look_call hl] at he ⊢
  exact nolook hl he

theorem step_nochange {call : CallE} {fr : Fr} {h h' : LH} {op : EO} {v : FV} (hl : changesE op = false) (he : stepE call fr h op = some (v, h')) : h' = h := by
  unfold stepE at he
  rw [call_change hl] at he
  exact nochange hl he

theorem change_look {op : EO} (h : changesE op = true) : looksE op = true := by
  cases op <;> first
    | rfl
    | cases h

/-! ### What comes ahead of what -/
theorem fold_bit (acc : Array Nat) (j : Nat) : ∀ (l : List Edge) (s : Nat), (l.foldl (fun s e => if Region.binds .any e then s ||| 2 ^ e.on ||| acc.getD e.on 0 else s) s).testBit j = true →
    s.testBit j = true ∨ ∃ e ∈ l, Region.binds .any e = true ∧ (j = e.on ∨ (acc.getD e.on 0).testBit j = true)
  | [], s, h => .inl h
  | e :: l, s, h => by
    rw [List.foldl_cons] at h
    rcases fold_bit acc j l _ h with h | ⟨e', h1, h2⟩
    · split at h
      · rename_i hb
        rw [Nat.testBit_or, Nat.testBit_or, Nat.testBit_two_pow] at h
        simp only [Bool.or_eq_true, decide_eq_true_eq] at h
        rcases h with (h | h) | h
        · exact .inl h
        · exact .inr ⟨e, List.mem_cons_self, hb, .inl h.symm⟩
        · exact .inr ⟨e, List.mem_cons_self, hb, .inr h⟩
      · exact .inl h
    · exact .inr ⟨e', List.mem_cons_of_mem _ h1, h2⟩

def stepB (acc : Array Nat) (o : Oper) : Array Nat := acc.push (o.after.foldl (fun s e => if Region.binds .any e then s ||| 2 ^ e.on ||| acc.getD e.on 0 else s) 0)

theorem before_fold : ∀ (l : List Oper) (acc : Array Nat) (ops : List Oper), ops.length = acc.size →
    (∀ (i j : Nat), (acc.getD i 0).testBit j = true → ∃ o e, ops[i]? = some o ∧ e ∈ o.after ∧ Region.binds .any e = true ∧ (j = e.on ∨ (acc.getD e.on 0).testBit j = true)) →
    ∀ (i j : Nat), ((l.foldl stepB acc).getD i 0).testBit j = true → ∃ o e, (ops ++ l)[i]? = some o ∧ e ∈ o.after ∧ Region.binds .any e = true ∧ (j = e.on ∨ ((l.foldl stepB acc).getD e.on 0).testBit j = true)
  | [], acc, ops, hs, ha, i, j, h => by simpa using ha i j h
  | o :: l, acc, ops, hs, ha, i, j, h => by
    rw [List.foldl_cons] at h ⊢
    have := before_fold l (stepB acc o) (ops ++ [o]) (by simp [stepB, hs]) (fun i j h => ?_) i j h
    · rw [List.append_assoc] at this; exact this
    · have hget : ∀ k, ((stepB acc o).getD k 0) = if k = acc.size then (o.after.foldl (fun s e => if Region.binds .any e then s ||| 2 ^ e.on ||| acc.getD e.on 0 else s) 0) else acc.getD k 0 := by
        intro k
        simp only [stepB, Array.getD_eq_getD_getElem?, Array.getElem?_push]
        split <;> rfl
      have hmono : ∀ k, (acc.getD k 0).testBit j = true → ((stepB acc o).getD k 0).testBit j = true := by
        intro k hk
        rw [hget]
        split
        · rename_i hk'
          subst hk'
          simp at hk
        · exact hk
      rw [hget] at h
      split at h
      · rename_i hi
        rw [← Array.foldl_toList] at h
        rcases fold_bit acc j _ _ h with h | ⟨e, h1, h2, h3⟩
        · simp at h
        · refine ⟨o, e, by rw [List.getElem?_append_right (by omega)]; simp [hi, hs], Array.mem_toList_iff.1 h1, h2, h3.imp id (hmono _)⟩
      · obtain ⟨o', e, h1, h2, h3, h4⟩ := ha i j h
        refine ⟨o', e, ?_, h2, h3, h4.imp id (hmono _)⟩
        rw [List.getElem?_append_left (List.getElem?_eq_some_iff.1 h1).1]; exact h1

theorem before_spec {ops : Array Oper} {i j : Nat} (h : ((Region.before ops).getD i 0).testBit j = true) : ∃ o e, ops[i]? = some o ∧ e ∈ o.after ∧ Region.binds .any e = true ∧ (j = e.on ∨ ((Region.before ops).getD e.on 0).testBit j = true) := by
  have hb : Region.before ops = ops.toList.foldl stepB #[] := by
    unfold Region.before
    rw [← Array.foldl_toList]; rfl
  rw [hb] at h ⊢
  obtain ⟨o, e, h1, h2⟩ := before_fold ops.toList #[] [] rfl (fun i j h => by simp at h) i j h
  exact ⟨o, e, by simpa using h1, h2⟩

/-! ### A region's run in the text's order, told by numbers -/
structure Tr (call : CallE) (gs : List EG) (fr : Fr) (h : LH) (fr' : Fr) (h' : LH) (frs : Nat → Fr) (hs : Nat → LH) (val : Nat → FV) (want : Nat → Bool) (tr : List (Option TE)) : Prop where
  fr0 : frs 0 = fr
  h0 : hs 0 = h
  frN : frs gs.length = fr'
  hN : hs gs.length = h'
  wantOk : ∀ i g, gs[i]? = some g → wantE (keepF (slotsG g) (frs i)) g.guard = some (want i)
  next : ∀ i g, gs[i]? = some g → frs (i + 1) = fput (frs i) g.dst (some (val i))
  off : ∀ i g, gs[i]? = some g → want i = false → val i = .tup [] ∧ hs (i + 1) = hs i ∧ tr[i]? = some none
  on : ∀ i g, gs[i]? = some g → want i = true → stepE call (keepF (slotsG g) (frs i)) (hs i) g.op = some (val i, hs (i + 1)) ∧ tr[i]? = some (some ⟨keepF (slotsG g) (frs i), hs i, g.op, val i, hs (i + 1)⟩)

def shift {α : Type} (x : α) (f : Nat → α) : Nat → α
  | 0 => x
  | n + 1 => f n

theorem trace_ok {call : CallE} : ∀ (gs : List EG) (fr : Fr) (h : LH) (tr : List (Option TE)) (fr' : Fr) (h' : LH), traceE call gs fr h = some (tr, fr', h') → ∃ frs hs val want, Tr call gs fr h fr' h' frs hs val want tr
  | [], fr, h, tr, fr', h', he => by
    simp only [traceE, Option.some.injEq, Prod.mk.injEq] at he
    obtain ⟨rfl, rfl, rfl⟩ := he
    exact ⟨fun _ => fr, fun _ => h, fun _ => .tup [], fun _ => false, ⟨rfl, rfl, rfl, rfl, by simp, by simp, by simp, by simp⟩⟩
  | g :: gs, fr, h, tr, fr', h', he => by
    simp only [traceE] at he
    split at he
    · rename_i hw
      split at he
      · rename_i v h1 hv
        obtain ⟨⟨tr1, fr1, h2⟩, h3, hq⟩ := Option.map_eq_some_iff.1 he
        simp only [Prod.mk.injEq] at hq
        obtain ⟨rfl, rfl, rfl⟩ := hq
        obtain ⟨frs, hs, val, want, T⟩ := trace_ok gs _ h1 tr1 fr1 h2 h3
        refine ⟨shift fr frs, shift h hs, shift v val, shift true want, ⟨rfl, rfl, T.frN, T.hN, ?_, ?_, ?_, ?_⟩⟩
        · intro i g' hi
          cases i with
          | zero => obtain rfl := Option.some.inj hi; exact hw
          | succ i => exact T.wantOk i g' hi
        · intro i g' hi
          cases i with
          | zero => obtain rfl := Option.some.inj hi; exact T.fr0
          | succ i => exact T.next i g' hi
        · intro i g' hi hf
          cases i with
          | zero => cases hf
          | succ i => exact T.off i g' hi hf
        · intro i g' hi hf
          cases i with
          | zero =>
            obtain rfl := Option.some.inj hi
            have e : hs 0 = h1 := T.h0
            refine ⟨?_, ?_⟩
            · show stepE call (keepF (slotsG g) fr) h g.op = some (v, hs 0)
              rw [e]; exact hv
            · show some (some (⟨keepF (slotsG g) fr, h, g.op, v, h1⟩ : TE)) = some (some ⟨keepF (slotsG g) fr, h, g.op, v, hs 0⟩)
              rw [e]
          | succ i => exact T.on i g' hi hf
      · cases he
    · rename_i hw
      obtain ⟨⟨tr1, fr1, h2⟩, h3, hq⟩ := Option.map_eq_some_iff.1 he
      simp only [Prod.mk.injEq] at hq
      obtain ⟨rfl, rfl, rfl⟩ := hq
      obtain ⟨frs, hs, val, want, T⟩ := trace_ok gs _ h tr1 fr1 h2 h3
      refine ⟨shift fr frs, shift h hs, shift (.tup []) val, shift false want, ⟨rfl, rfl, T.frN, T.hN, ?_, ?_, ?_, ?_⟩⟩
      · intro i g' hi
        cases i with
        | zero => obtain rfl := Option.some.inj hi; exact hw
        | succ i => exact T.wantOk i g' hi
      · intro i g' hi
        cases i with
        | zero => obtain rfl := Option.some.inj hi; exact T.fr0
        | succ i => exact T.next i g' hi
      · intro i g' hi hf
        cases i with
        | zero => exact ⟨rfl, T.h0, rfl⟩
        | succ i => exact T.off i g' hi hf
      · intro i g' hi hf
        cases i with
        | zero => cases hf
        | succ i => exact T.on i g' hi hf
    · cases he

theorem okPairs_mem {call : CallE} {tr : List (Option TE)} : ∀ {l : List (Nat × Nat)}, okPairs call tr l → ∀ p ∈ l, okPair call tr p
  | [], _, p, hp => by cases hp
  | q :: l, h, p, hp => by
    rcases List.mem_cons.1 hp with rfl | hp
    · exact h.1
    · exact okPairs_mem h.2 p hp

theorem mem_pairs {ops : Array Oper} {gs : List EG} {i j : Nat} {g g' : EG} (hi : gs[i]? = some g) (hj : gs[j]? = some g') (hl : looksE g.op = true) (hc : changesE g'.op = true) (hne : i ≠ j)
    (h1 : ((Region.before ops).getD j 0).testBit i = false) (h2 : ((Region.before ops).getD i 0).testBit j = false) : (i, j) ∈ pairsOf ops gs := by
  unfold pairsOf
  refine List.mem_flatMap.2 ⟨i, List.mem_range.2 (List.getElem?_eq_some_iff.1 hi).1, ?_⟩
  simp only [hi, hl, if_true]
  refine List.mem_filterMap.2 ⟨j, List.mem_range.2 (List.getElem?_eq_some_iff.1 hj).1, ?_⟩
  simp only [hj, hc, h1, h2]
  simp [hne]

theorem drawOk_after {ops : Array Oper} {gs : List EG} (hd : drawOk ops gs = true) {i : Nat} {o : Oper} (hi : i < gs.length) (ho : ops[i]? = some o) {e : Edge} (he : e ∈ o.after) (hb : Region.binds .any e = true) : e.on < i := by
  unfold drawOk at hd
  have := List.all_eq_true.1 hd i (List.mem_range.2 hi)
  rw [Bool.and_eq_true] at this
  have h1 := this.1
  simp only [ho] at h1
  have := Array.all_eq_true_iff_forall_mem.1 h1 e he
  simpa [hb] using this

theorem drawOk_slots {ops : Array Oper} {gs : List EG} (hd : drawOk ops gs = true) {i j d : Nat} {g g' : EG} (hi : gs[i]? = some g) (hj : gs[j]? = some g') (hdst : g'.dst = some d) :
    (i ≠ j → g.dst ≠ some d) ∧ (d ∈ slotsG g → i = j ∨ ((Region.before ops).getD i 0).testBit j = true ∨ ((Region.before ops).getD j 0).testBit i = true) := by
  unfold drawOk at hd
  have := List.all_eq_true.1 hd i (List.mem_range.2 (List.getElem?_eq_some_iff.1 hi).1)
  rw [Bool.and_eq_true] at this
  have h2 := this.2
  simp only [hi] at h2
  have := List.all_eq_true.1 h2 j (List.mem_range.2 (List.getElem?_eq_some_iff.1 hj).1)
  simp only [hj, hdst] at this
  rw [Bool.and_eq_true] at this
  refine ⟨fun hne hq => ?_, fun hm => ?_⟩
  · have h3 := this.1
    simp [hne, hq] at h3
  · have h3 := this.2
    simpa [hm, or_assoc] using h3

theorem compL_get {N : Nat} {ops : Array Oper} : ∀ {l : List Oper} {gs : List EG}, compL P N ops l = some gs → l.length = gs.length ∧ ∀ (i : Nat) (o : Oper), l[i]? = some o → ∃ g, gs[i]? = some g ∧ compG P N ops o = some g
  | [], gs, h => by
    simp only [compL, Option.some.injEq] at h
    subst h; simp
  | o :: l, gs, h => by
    simp only [compL] at h
    split at h
    · rename_i g hg
      obtain ⟨gs', hgs, rfl⟩ := Option.map_eq_some_iff.1 h
      obtain ⟨h1, h2⟩ := compL_get hgs
      refine ⟨by simp [h1], fun i o' hi => ?_⟩
      cases i with
      | zero => obtain rfl := Option.some.inj hi; exact ⟨g, rfl, hg⟩
      | succ i => exact h2 i o' hi
    · cases h

theorem mem_keep {fr : Fr} {keep : List Nat} {t : Nat} {v : FV} (h : fget (keepF keep fr) t = some v) : t ∈ keep := by
  induction keep with
  | nil => cases h
  | cons k r ih =>
    simp only [keepF, List.map_cons, fget] at h
    by_cases e : t = k
    · rw [e]; exact List.mem_cons_self
    · rw [if_neg e] at h; exact List.mem_cons_of_mem _ (ih h)

theorem filter_lt {p q : Nat → Bool} : ∀ (l : List Nat) (i : Nat), i ∈ l → (∀ j, q j = true → p j = true) → p i = true → q i = false → (l.filter q).length < (l.filter p).length
  | [], i, h, _, _, _ => by cases h
  | x :: l, i, h, hpq, hp, hq => by
    have hle : ∀ l : List Nat, (l.filter q).length ≤ (l.filter p).length := by
      intro l
      induction l with
      | nil => exact Nat.le_refl _
      | cons y l ih =>
        simp only [List.filter_cons]
        cases hqy : q y with
        | true => rw [hpq y hqy]; simpa using ih
        | false =>
          cases p y
          · simpa using ih
          · simp only [Bool.false_eq_true, if_false, if_true, List.length_cons]; omega
    rcases List.mem_cons.1 h with rfl | hm
    · simp only [List.filter_cons, hp, hq, Bool.false_eq_true, if_false, if_true, List.length_cons]
      have := hle l; omega
    · have ih := filter_lt l i hm hpq hp hq
      simp only [List.filter_cons]
      cases hqx : q x with
      | true => rw [hpq x hqx]; simpa using ih
      | false =>
        cases p x
        · simpa using ih
        · simp only [Bool.false_eq_true, if_false, if_true, List.length_cons]; omega

section
variable {ρ : Nat → Ph} {h : LH} {w : World} {N : Nat} {fr : Fr} {a : Act} {Q : Exit → Act → World → Prop}

/-- What the slots hold when the operations of a set are done. -/
def Known (gs : List EG) (fr : Fr) (val : Nat → FV) (S : Nat → Prop) (t : Nat) (v : FV) : Prop :=
  (∃ i g, S i ∧ gs[i]? = some g ∧ g.dst = some t ∧ v = val i) ∨ ((∀ i g, S i → gs[i]? = some g → g.dst ≠ some t) ∧ fget fr t = some v)

theorem frs_get {call : CallE} {gs : List EG} {fr' : Fr} {h' : LH} {frs : Nat → Fr} {hs : Nat → LH} {val : Nat → FV} {want : Nat → Bool} {tr : List (Option TE)} (T : Tr call gs fr h fr' h' frs hs val want tr)
    {ops : Array Oper} (hd : drawOk ops gs = true) : ∀ i, i ≤ gs.length → ∀ t v, fget (frs i) t = some v → (∃ j g, j < i ∧ gs[j]? = some g ∧ g.dst = some t ∧ v = val j) ∨ ((∀ j g, j < i → gs[j]? = some g → g.dst ≠ some t) ∧ fget fr t = some v)
  | 0, _, t, v, hg => by
    rw [T.fr0] at hg
    exact .inr ⟨fun j g hj => absurd hj (Nat.not_lt_zero _), hg⟩
  | i + 1, hi, t, v, hg => by
    have hgi : gs[i]? = some gs[i] := List.getElem?_eq_getElem hi
    rw [T.next i _ hgi] at hg
    cases hdst : gs[i].dst with
    | none =>
      rw [hdst] at hg
      rcases frs_get T hd i (by omega) t v hg with ⟨j, g, h1, h2⟩ | ⟨h1, h2⟩
      · exact .inl ⟨j, g, by omega, h2⟩
      · refine .inr ⟨fun j g hj hjg => ?_, h2⟩
        by_cases e : j = i
        · subst e
          rw [hgi] at hjg
          obtain rfl := Option.some.inj hjg
          rw [hdst]; simp
        · exact h1 j g (by omega) hjg
    | some d =>
      rw [hdst] at hg
      simp only [fput, fget] at hg
      by_cases e : t = d
      · rw [if_pos e] at hg
        exact .inl ⟨i, _, by omega, hgi, by rw [hdst, e], (Option.some.inj hg).symm⟩
      · rw [if_neg e] at hg
        rcases frs_get T hd i (by omega) t v hg with ⟨j, g, h1, h2⟩ | ⟨h1, h2⟩
        · exact .inl ⟨j, g, by omega, h2⟩
        · refine .inr ⟨fun j g hj hjg => ?_, h2⟩
          by_cases e' : j = i
          · subst e'
            rw [hgi] at hjg
            obtain rfl := Option.some.inj hjg
            rw [hdst]
            intro hq
            exact e (Option.some.inj hq).symm
          · exact h1 j g (by omega) hjg

theorem hs_const {hs : Nat → LH} {x : Nat} : ∀ y, x ≤ y → (∀ k, x ≤ k → k < y → hs (k + 1) = hs k) → hs y = hs x := by
  intro y
  induction y with
  | zero => intro h _; rw [Nat.le_zero.1 h]
  | succ y ih =>
    intro h hk
    by_cases e : x = y + 1
    · rw [e]
    · rw [hk y (by omega) (by omega), ih (by omega) (fun k h1 h2 => hk k h1 (by omega))]

/-- The last place below y at which the heap changes. -/
theorem last_change (hs : Nat → LH) (x : Nat) : ∀ y, x ≤ y → hs y ≠ hs x → ∃ k, x ≤ k ∧ k < y ∧ hs (k + 1) ≠ hs k ∧ hs (k + 1) = hs y := by
  intro y
  induction y with
  | zero => intro h hne; rw [Nat.le_zero.1 h] at hne; exact absurd rfl hne
  | succ y ih =>
    intro h hne
    by_cases e : hs (y + 1) = hs y
    · by_cases e' : x = y + 1
      · rw [e'] at hne; exact absurd rfl hne
      · obtain ⟨k, h1, h2, h3, h4⟩ := ih (by omega) (by rw [← e]; exact hne)
        exact ⟨k, h1, by omega, h3, by rw [h4, e]⟩
    · by_cases e' : x = y + 1
      · rw [e'] at hne; exact absurd rfl hne
      · exact ⟨y, by omega, by omega, e, rfl⟩

/-- The first place from x on. -/
theorem first_change (hs : Nat → LH) (x : Nat) : ∀ y, x ≤ y → hs y ≠ hs x → ∃ k, x ≤ k ∧ k < y ∧ hs (k + 1) ≠ hs k ∧ hs k = hs x := by
  intro y
  induction y with
  | zero => intro h hne; rw [Nat.le_zero.1 h] at hne; exact absurd rfl hne
  | succ y ih =>
    intro h hne
    by_cases e' : x = y + 1
    · rw [e'] at hne; exact absurd rfl hne
    · by_cases e : hs y = hs x
      · exact ⟨y, by omega, by omega, by rw [e]; exact hne, e⟩
      · obtain ⟨k, h1, h2, h3, h4⟩ := ih (by omega) e
        exact ⟨k, h1, by omega, h3, h4⟩

def listed (L : Array Bool) (i : Nat) : Prop := L.getD i false = true

theorem listed_set {L : Array Bool} {i j : Nat} (hi : i < L.size) : listed (L.setIfInBounds i true) j ↔ j = i ∨ listed L j := by
  unfold listed
  by_cases e : i = j
  · subst e
    simp [Array.getD_eq_getD_getElem?, Array.getElem?_setIfInBounds, hi]
  · rw [Array.getD_eq_getD_getElem?, Array.getElem?_setIfInBounds_ne e, ← Array.getD_eq_getD_getElem?]
    constructor
    · exact .inr
    · rintro (rfl | h)
      · exact absurd rfl e
      · exact h

structure Inv (P : Program) (w0 : World) (N : Nat) (ops : Array Oper) (gs : List EG) (fr : Fr) (hs : Nat → LH) (val : Nat → FV) (ρ0 : Nat → Ph) (n0 : Nat) (L : Array Bool) (a : Act) (w : World) : Prop where
  size : L.size = ops.size
  closed : ∀ k j, listed L k → ((Region.before ops).getD k 0).testBit j = true → listed L j
  tsize : a.tmps.size = N
  defers : a.defers = []
  heap : ∃ ρ m, m ≤ gs.length ∧ Rel P w0 ρ (hs m) w ∧ Ext n0 ρ0 ρ ∧ n0 ≤ (hs m).length ∧ (∀ k, k < m → hs (k + 1) ≠ hs k → listed L k) ∧ (∀ k, k < gs.length → listed L k → hs (k + 1) ≠ hs k → k < m) ∧
    ∀ t v, Known gs fr val (listed L) t v → t < N ∧ a.tmps.getD t undef = cv ρ v ∧ wfV ρ (hs m).length v

theorem draw_inv {call : CallE} (hcall : CallOK P w0 call) {ops : Array Oper} {gs : List EG} (hc : compL P N ops ops.toList = some gs) (hd : drawOk ops gs = true) {fr' : Fr} {h' : LH} {frs : Nat → Fr} {hs : Nat → LH} {val : Nat → FV} {want : Nat → Bool} {tr : List (Option TE)}
    (T : Tr call gs fr h fr' h' frs hs val want tr) (hp : okPairs call tr (pairsOf ops gs)) {n0 : Nat} {ρ0 : Nat → Ph} (hn0 : n0 = h.length)
    (hQ : ∀ ρ' a' w', Rel P w0 ρ' h' w' → FrR ρ' h'.length N fr' a' → Ext n0 ρ0 ρ' → n0 ≤ h'.length → Q .normal a' w') :
    ∀ (fuel : Nat) (L : Array Bool) (a : Act) (w : World), Inv P w0 N ops gs fr hs val ρ0 n0 L a w → ((List.range gs.length).filter fun i => !L.getD i false).length ≤ fuel → wpAny P .any ops Q fuel L a w := by
  obtain ⟨hlen, hget⟩ := compL_get hc
  have hlen' : ops.size = gs.length := by rw [← hlen]; simp
  -- what comes ahead is smaller
  have hlt : ∀ i j, ((Region.before ops).getD i 0).testBit j = true → j < i := by
    intro i
    induction i using Nat.strongRecOn with
    | _ i ih =>
      intro j hb
      obtain ⟨o, e, h1, h2, h3, h4⟩ := before_spec hb
      have hi : i < gs.length := by rw [← hlen']; exact (Array.getElem?_eq_some_iff.1 h1).1
      have he := drawOk_after hd hi h1 h2 h3
      rcases h4 with rfl | h4
      · exact he
      · have := ih e.on he j h4; omega
  have hready : ∀ {L : Array Bool} {a : Act} {w : World} {i : Nat}, Inv P w0 N ops gs fr hs val ρ0 n0 L a w → i ∈ Region.ready .any ops L → i < gs.length ∧ ¬ listed L i ∧ ∀ j, ((Region.before ops).getD i 0).testBit j = true → listed L j := by
    intro L a w i I hi
    obtain ⟨h1, o, ho, h2⟩ := mem_ready.1 hi
    have hil : i < ops.size := (Array.getElem?_eq_some_iff.1 ho).1
    refine ⟨by omega, ?_, ?_⟩
    · unfold listed
      have : i < L.size := by rw [I.size]; exact hil
      rw [Array.getD_eq_getD_getElem?, Array.getElem?_eq_getElem this] at h1 ⊢
      simp only [Option.getD_some] at h1 ⊢
      rw [h1]; decide
    · intro j hb
      obtain ⟨o', e, h3, h4, h5, h6⟩ := before_spec hb
      rw [ho] at h3
      obtain rfl := Option.some.inj h3
      have hl := h2 e h4 h5
      rcases h6 with rfl | h6
      · exact hl
      · exact I.closed e.on j hl h6
  have hall : ∀ {L : Array Bool} {a : Act} {w : World}, Inv P w0 N ops gs fr hs val ρ0 n0 L a w → Region.ready .any ops L = [] → ∀ i, i < gs.length → listed L i := by
    intro L a w I hr i
    induction i using Nat.strongRecOn with
    | _ i ih =>
      intro hi
      by_cases hl : listed L i
      · exact hl
      · exfalso
        have hio : i < ops.size := by omega
        have : i ∈ Region.ready .any ops L := by
          refine mem_ready.2 ⟨?_, ops[i], Array.getElem?_eq_getElem hio, fun e he hb => ?_⟩
          · have : i < L.size := by rw [I.size]; exact hio
            unfold listed at hl
            rw [Array.getD_eq_getD_getElem?, Array.getElem?_eq_getElem this] at hl ⊢
            simp only [Option.getD_some] at hl ⊢
            cases hq : L[i]
            · rfl
            · rw [hq] at hl; exact absurd rfl hl
          · have := drawOk_after hd hi (Array.getElem?_eq_getElem hio) he hb
            exact ih e.on this (by omega)
        rw [hr] at this; cases this
  have hfin : ∀ {L : Array Bool} {a : Act} {w : World}, Inv P w0 N ops gs fr hs val ρ0 n0 L a w → (∀ i, i < gs.length → listed L i) → Q .normal a w := by
    intro L a w I hl
    obtain ⟨ρ, m, hm, R, hE, hle, h1, h2, h3⟩ := I.heap
    have hmN : hs m = h' := by
      rw [← T.hN]
      refine (hs_const gs.length hm fun k hk1 hk2 => ?_).symm
      apply Classical.byContradiction
      intro hne
      have := h2 k hk2 (hl k hk2) hne
      omega
    rw [hmN] at R hle h3
    refine hQ ρ a w R ⟨I.tsize, I.defers, fun t v hv => h3 t v ?_⟩ hE hle
    rw [← T.frN] at hv
    rcases frs_get T hd gs.length (Nat.le_refl _) t v hv with ⟨j, g, q1, q2, q3, q4⟩ | ⟨q1, q2⟩
    · exact .inl ⟨j, g, hl j q1, q2, q3, q4⟩
    · refine .inr ⟨fun j g hj hg => q1 j g (List.getElem?_eq_some_iff.1 hg).1 hg, q2⟩
  intro fuel
  induction fuel with
  | zero =>
    intro L a w I hf
    have hl : ∀ i, i < gs.length → listed L i := by
      intro i hi
      apply Classical.byContradiction
      intro hne
      have : i ∈ (List.range gs.length).filter fun i => !L.getD i false := by
        refine List.mem_filter.2 ⟨List.mem_range.2 hi, ?_⟩
        unfold listed at hne
        simpa using hne
      have := List.length_pos_of_mem this
      omega
    refine ⟨?_, hfin I hl⟩
    cases hr : Region.ready .any ops L with
    | nil => rfl
    | cons i r =>
      obtain ⟨q1, q2, _⟩ := hready I (by rw [hr]; exact List.mem_cons_self)
      exact absurd (hl i q1) q2
  | succ fuel ih =>
    intro L a w I hf
    refine ⟨fun hr => hfin I (hall I hr), fun i hi => ?_⟩
    obtain ⟨hil, hnl, hbef⟩ := hready I hi
    have hio : i < ops.size := by omega
    have hLi : i < L.size := by rw [I.size]; exact hio
    obtain ⟨g, hg, hcg⟩ := hget i ops[i] (by simp [hio])
    obtain ⟨d1, d2, ⟨d3, d3'⟩, d4⟩ := compG_ok hcg
    obtain ⟨ρ, m, hm, R, hE, hle, h1, h2, h3⟩ := I.heap
    have hclosed' : ∀ k j, listed (L.setIfInBounds i true) k → ((Region.before ops).getD k 0).testBit j = true → listed (L.setIfInBounds i true) j := by
      intro k j hk hb
      rcases (listed_set hLi).1 hk with rfl | hk
      · exact (listed_set hLi).2 (.inr (hbef j hb))
      · exact (listed_set hLi).2 (.inr (I.closed k j hk hb))
    have hfuel' : ((List.range gs.length).filter fun j => !(L.setIfInBounds i true).getD j false).length ≤ fuel := by
      have := filter_lt (p := fun j => !L.getD j false) (q := fun j => !(L.setIfInBounds i true).getD j false) (List.range gs.length) i (List.mem_range.2 hil) (fun j hq => ?_) ?_ ?_
      · omega
      · have h0 : ¬ listed (L.setIfInBounds i true) j := by unfold listed; simpa using hq
        have h1' : ¬ listed L j := fun hh => h0 ((listed_set hLi).2 (.inr hh))
        unfold listed at h1'; simpa using h1'
      · unfold listed at hnl; simpa using hnl
      · have : listed (L.setIfInBounds i true) i := (listed_set hLi).2 (.inl rfl)
        unfold listed at this; simpa using this
    -- the frame of the slots that it looks at
    have hF : FrR ρ (hs m).length N (keepF (slotsG g) (frs i)) a := by
      refine ⟨I.tsize, I.defers, fun t v hv => h3 t v ?_⟩
      have htm := mem_keep hv
      have hv' := fget_keep hv
      rcases frs_get T hd i (by omega) t v hv' with ⟨j, g', q1, q2, q3, q4⟩ | ⟨q1, q2⟩
      · refine .inl ⟨j, g', ?_, q2, q3, q4⟩
        rcases (drawOk_slots hd hg q2 q3).2 htm with r | r | r
        · omega
        · exact hbef j r
        · have := hlt j i r; omega
      · refine .inr ⟨fun j g' hj hjg hdst => ?_, q2⟩
        rcases (drawOk_slots hd hg hjg hdst).2 htm with r | r | r
        · subst r; exact hnl hj
        · exact q1 j g' (hlt i j r) hjg hdst
        · exact hnl (I.closed j i hj r)
    -- what is known when it is done
    have hknown : ∀ t v, Known gs fr val (listed (L.setIfInBounds i true)) t v → (g.dst = some t ∧ v = val i) ∨ (g.dst ≠ some t ∧ Known gs fr val (listed L) t v) := by
      intro t v hk
      rcases hk with ⟨j, g', q1, q2, q3, q4⟩ | ⟨q1, q2⟩
      · rcases (listed_set hLi).1 q1 with rfl | q1
        · rw [hg] at q2
          obtain rfl := Option.some.inj q2
          exact .inl ⟨q3, q4⟩
        · have hne : i ≠ j := fun e => hnl (e ▸ q1)
          exact .inr ⟨(drawOk_slots hd hg q2 q3).1 hne, .inl ⟨j, g', q1, q2, q3, q4⟩⟩
      · refine .inr ⟨q1 i g ((listed_set hLi).2 (.inl rfl)) hg, .inr ⟨fun j g' hj hjg => q1 j g' ((listed_set hLi).2 (.inr hj)) hjg, q2⟩⟩
    have hput : ∀ (ρ' : Nat → Ph) (n' : Nat) (x : FV), x = val i → wfV ρ' n' x → (∀ t v, Known gs fr val (listed L) t v → t < N ∧ a.tmps.getD t undef = cv ρ' v ∧ wfV ρ' n' v) →
        ∀ t v, Known gs fr val (listed (L.setIfInBounds i true)) t v → t < N ∧ (a.put g.dst (cv ρ' x)).tmps.getD t undef = cv ρ' v ∧ wfV ρ' n' v := by
      intro ρ' n' x hx hwx hk t v hkn
      rcases hknown t v hkn with ⟨q1, rfl⟩ | ⟨q1, q2⟩
      · rw [d2] at q1
        have htN := d1 t q1
        rw [d2, q1, hx]
        exact ⟨htN, getD_set_self (by rw [I.tsize]; exact htN), hx ▸ hwx⟩
      · obtain ⟨r1, r2, r3⟩ := hk t v q2
        refine ⟨r1, ?_, r3⟩
        cases hdd : g.dst with
        | none => exact r2
        | some d =>
          rw [hdd] at q1
          exact (getD_set_ne (fun e => q1 (by rw [e]))).trans r2
    have hsz : ∀ (x : Value), (a.put g.dst x).tmps.size = N ∧ (a.put g.dst x).defers = [] := by
      intro x
      cases g.dst with
      | none => exact ⟨I.tsize, I.defers⟩
      | some d => exact ⟨by simp [Act.put, I.tsize], I.defers⟩
    have hsize' : (L.setIfInBounds i true).size = ops.size := by rw [Array.size_setIfInBounds, I.size]
    unfold Go.wpOp
    rw [Array.getElem?_eq_getElem hio]
    simp only
    rw [want_ok hF hcg (T.wantOk i g hg)]
    cases hwi : want i with
    | false =>
      simp only [Bool.false_eq_true, if_false]
      obtain ⟨t1, t2, t3⟩ := T.off i g hg hwi
      refine ih _ _ _ ⟨hsize', hclosed', ?_, ?_, ρ, m, hm, R, hE, hle, ?_, ?_, ?_⟩ hfuel'
      · rw [← d2]; exact (hsz _).1
      · rw [← d2]; exact (hsz _).2
      · exact fun k hk hne => (listed_set hLi).2 (.inr (h1 k hk hne))
      · intro k hk hkl hne
        rcases (listed_set hLi).1 hkl with rfl | hkl
        · exact absurd t2 hne
        · exact h2 k hk hkl hne
      · rw [← d2]
        exact hput ρ _ (.tup []) t1.symm (fun v hv => by cases hv) h3
    | true =>
      simp only [if_true]
      obtain ⟨t1, t2⟩ := T.on i g hg hwi
      -- a change that is not wanted is none
      have hon : ∀ k, k < gs.length → hs (k + 1) ≠ hs k → ∃ gk, gs[k]? = some gk ∧ want k = true ∧ changesE gk.op = true ∧ tr[k]? = some (some ⟨keepF (slotsG gk) (frs k), hs k, gk.op, val k, hs (k + 1)⟩) := by
        intro k hk hne
        have hgk : gs[k]? = some gs[k] := List.getElem?_eq_getElem hk
        cases hwk : want k with
        | false => exact absurd (T.off k _ hgk hwk).2.1 hne
        | true =>
          obtain ⟨s1, s2⟩ := T.on k _ hgk hwk
          refine ⟨_, hgk, rfl, ?_, s2⟩
          cases hch : changesE gs[k].op with
          | true => rfl
          | false => exact absurd (step_nochange hch s1) hne
      have hpair : ∀ k, k < gs.length → hs (k + 1) ≠ hs k → k ≠ i → looksE g.op = true → ((Region.before ops).getD k 0).testBit i = false → ((Region.before ops).getD i 0).testBit k = false →
          stepE call (keepF (slotsG g) (frs i)) (hs k) g.op = some (val i, hs k) ∧ stepE call (keepF (slotsG g) (frs i)) (hs (k + 1)) g.op = some (val i, hs (k + 1)) := by
        intro k hk hne hki hl hb1 hb2
        obtain ⟨gk, hgk, hwk, hch, htk⟩ := hon k hk hne
        have := okPairs_mem hp _ (mem_pairs hg hgk hl hch (Ne.symm hki) hb1 hb2)
        unfold okPair at this
        simp only [t2, htk] at this
        rcases this with h | h
        · exact absurd h hne
        · exact h
      have hnotB : ∀ {x y : Nat}, ¬ (((Region.before ops).getD x 0).testBit y = true) → ((Region.before ops).getD x 0).testBit y = false := fun h => by simpa using h
      by_cases heff : hs (i + 1) = hs i
      · -- it changes nothing
        have hstep : stepE call (keepF (slotsG g) (frs i)) (hs m) g.op = some (val i, hs m) := by
          cases hl : looksE g.op with
          | false => exact (step_nolook hl t1).2 (hs m)
          | true =>
            by_cases hsm : hs m = hs i
            · rw [hsm]; rw [heff] at t1; exact t1
            · rcases Nat.lt_or_ge i m with him | him
              · obtain ⟨k, k1, k2, k3, k4⟩ := last_change hs i m (by omega) hsm
                have hki : k ≠ i := fun e => by subst e; exact k3 heff
                have hkl := h1 k k2 k3
                have := hpair k (by omega) k3 hki hl (hnotB fun hb => hnl (I.closed k i hkl hb)) (hnotB fun hb => by have := hlt i k hb; omega)
                rw [k4] at this
                exact this.2
              · obtain ⟨k, k1, k2, k3, k4⟩ := first_change hs m i him (Ne.symm hsm)
                have hkl : ¬ listed L k := fun hk => by have := h2 k (by omega) hk k3; omega
                have := hpair k (by omega) k3 (by omega) hl (hnotB fun hb => by have := hlt k i hb; omega) (hnotB fun hb => hkl (hbef k hb))
                rw [k4] at this
                exact this.1
        refine .inl (step_ok hcall R hF d3 d3' hstep fun ρ' w' q1 q2 q3 q4 => ?_)
        refine ih _ _ _ ⟨hsize', hclosed', ?_, ?_, ρ', m, hm, q1, hE.trans hle q2, hle, ?_, ?_, ?_⟩ hfuel'
        · rw [← d2]; exact (hsz _).1
        · rw [← d2]; exact (hsz _).2
        · exact fun k hk hne => (listed_set hLi).2 (.inr (h1 k hk hne))
        · intro k hk hkl hne
          rcases (listed_set hLi).1 hkl with rfl | hkl
          · exact absurd heff hne
          · exact h2 k hk hkl hne
        · rw [← d2]
          refine hput ρ' _ (val i) rfl q4 (fun t v hk => ?_)
          obtain ⟨r1, r2, r3⟩ := h3 t v hk
          exact ⟨r1, r2.trans (cv_ext q2 r3).symm, wfV_ext q2 (Nat.le_refl _) r3⟩
      · -- it changes the heap
        have hchange : changesE g.op = true := by
          cases hch : changesE g.op with
          | true => rfl
          | false => exact absurd (step_nochange hch t1) heff
        have hlook := change_look hchange
        have hafter : ∀ k, k < gs.length → listed L k → hs (k + 1) ≠ hs k → k < i := by
          intro k hk hkl hne
          rcases Nat.lt_trichotomy k i with h | h | h
          · exact h
          · subst h; exact absurd hkl hnl
          · exact absurd (h1 i (by have := h2 k hk hkl hne; omega) heff) hnl
        have hahead : ∀ k, k < i → hs (k + 1) ≠ hs k → listed L k := by
          intro k hk hne
          by_cases hi0 : hs i = hs k
          · obtain ⟨x, x1, x2, x3, x4⟩ := last_change hs (k + 1) i (by omega) (by rw [hi0]; exact Ne.symm hne)
            by_cases hxl : listed L x
            · exact h1 k (by have := h2 x (by omega) hxl x3; omega) hne
            · have := hpair x (by omega) x3 (by omega) hlook (hnotB fun hb => by have := hlt x i hb; omega) (hnotB fun hb => hxl (hbef x hb))
              rw [x4, t1] at this
              have e := this.2
              simp only [Option.some.injEq, Prod.mk.injEq, true_and] at e
              exact absurd e heff
          · obtain ⟨x, x1, x2, x3, x4⟩ := last_change hs k i (by omega) hi0
            by_cases hxl : listed L x
            · exact h1 k (by have := h2 x (by omega) hxl x3; omega) hne
            · have := hpair x (by omega) x3 (by omega) hlook (hnotB fun hb => by have := hlt x i hb; omega) (hnotB fun hb => hxl (hbef x hb))
              rw [x4, t1] at this
              have e := this.2
              simp only [Option.some.injEq, Prod.mk.injEq, true_and] at e
              exact absurd e heff
        have hsm : hs m = hs i := by
          rcases Nat.le_total m i with hmi | hmi
          · refine (hs_const i hmi fun k k1 k2 => ?_).symm
            apply Classical.byContradiction
            intro hne
            have := h2 k (by omega) (hahead k k2 hne) hne
            omega
          · refine hs_const m hmi fun k k1 k2 => ?_
            apply Classical.byContradiction
            intro hne
            have := hafter k (by omega) (h1 k k2 hne) hne
            omega
        have hstep : stepE call (keepF (slotsG g) (frs i)) (hs m) g.op = some (val i, hs (i + 1)) := by rw [hsm]; exact t1
        refine .inl (step_ok hcall R hF d3 d3' hstep fun ρ' w' q1 q2 q3 q4 => ?_)
        refine ih _ _ _ ⟨hsize', hclosed', ?_, ?_, ρ', i + 1, hil, q1, hE.trans hle q2, by omega, ?_, ?_, ?_⟩ hfuel'
        · rw [← d2]; exact (hsz _).1
        · rw [← d2]; exact (hsz _).2
        · intro k hk hne
          by_cases e : k = i
          · exact (listed_set hLi).2 (.inl e)
          · exact (listed_set hLi).2 (.inr (hahead k (by omega) hne))
        · intro k hk hkl hne
          rcases (listed_set hLi).1 hkl with rfl | hkl
          · omega
          · have := hafter k hk hkl hne; omega
        · rw [← d2]
          refine hput ρ' _ (val i) rfl q4 (fun t v hk => ?_)
          obtain ⟨r1, r2, r3⟩ := h3 t v hk
          exact ⟨r1, r2.trans (cv_ext q2 r3).symm, wfV_ext q2 q3 r3⟩

theorem draw_ok (hm : P.follows .mixedOrders = true) {call : CallE} (hcall : CallOK P w0 call) {id : Nat} {ops : Array Oper} {gs : List EG} (hc : compL P N ops ops.toList = some gs) (hd : drawOk ops gs = true) {fr' : Fr} {h' : LH} (he : drawE call gs (pairsOf ops gs) fr h = some (fr', h'))
    (R : Rel P w0 ρ h w) (hF : FrR ρ h.length N fr a) (hQ : ∀ ρ' a' w', Rel P w0 ρ' h' w' → FrR ρ' h'.length N fr' a' → Ext h.length ρ ρ' → h.length ≤ h'.length → Q .normal a' w') : (Code.region id ops true).wp P Q a w := by
  unfold drawE at he
  split at he
  · rename_i tr fr1 h1 htr
    split at he
    · rename_i hp
      simp only [Option.some.injEq, Prod.mk.injEq] at he
      obtain ⟨rfl, rfl⟩ := he
      obtain ⟨frs, hs, val, want, T⟩ := trace_ok gs fr h tr fr1 h1 htr
      obtain ⟨hlen, hget⟩ := compL_get hc
      have hlen' : ops.size = gs.length := by rw [← hlen]; simp
      refine wp_region_any hm ?_
      have hno : ∀ j, ¬ listed (Array.replicate ops.size false) j := by
        intro j hj
        unfold listed at hj
        rw [Array.getD_eq_getD_getElem?, Array.getElem?_replicate] at hj
        split at hj <;> cases hj
      refine draw_inv hcall hc hd T hp rfl (ρ0 := ρ) hQ ops.size _ a _ ⟨by simp, fun k j hk => absurd hk (hno k), hF.size, hF.defers, ρ, 0, Nat.zero_le _, ?_, ?_, ?_, ?_, ?_, ?_⟩ ?_
      · rw [T.h0]; exact R.drewN 1
      · exact Ext.refl _ _
      · rw [T.h0]; exact Nat.le_refl _
      · intro k hk; omega
      · intro k _ hk; exact absurd hk (hno k)
      · rintro t v (⟨i, g, q1, _⟩ | ⟨_, q2⟩)
        · exact absurd q1 (hno i)
        · rw [T.h0]; exact hF.get t v q2
      · have := List.length_filter_le (fun i => !(Array.replicate ops.size false).getD i false) (List.range gs.length)
        rw [List.length_range] at this
        omega
    · cases he
  · cases he

end
end Go.Proofs.Ytcimcccnhbbncaa.Ev
