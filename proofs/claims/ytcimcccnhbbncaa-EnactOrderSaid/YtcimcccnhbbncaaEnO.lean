/- The order of rows does not count: the pure part. -/
import Derived.Test.YtcimcccnhbbncaaEnactGrows
set_option linter.unusedSimpArgs false
set_option linter.unusedVariables false
namespace Go.Proofs.Ytcimcccnhbbncaa.Ev.CE
open Go

def okR (j : ByteArray) (y p : Int) (x : Ro) : Prop := (x.j.toList == j.toList) = true ∧ x.y ≤ y ∧ x.p ≤ p
theorem step_eq {j : ByteArray} {y p : Int} {s : Option Ro} {x : Ro} : (¬ okR j y p x ∧ stepB j y p s x = s) ∨ (okR j y p x ∧ ((s = none ∧ stepB j y p s x = some x) ∨ ∃ b, s = some b ∧ ((x.y > b.y ∨ x.y = b.y ∧ x.p > b.p) ∧ stepB j y p s x = some x ∨ ¬ (x.y > b.y ∨ x.y = b.y ∧ x.p > b.p) ∧ stepB j y p s x = some b))) := by
  unfold stepB
  by_cases h : (x.j.toList == j.toList) = false ∨ x.y > y ∨ x.p > p
  · refine .inl ⟨fun ho => ?_, if_pos h⟩
    obtain ⟨h1, h2, h3⟩ := ho
    rcases h with h | h | h
    · rw [h1] at h; cases h
    · omega
    · omega
  · refine .inr ⟨⟨?_, by omega, by omega⟩, ?_⟩
    · cases e : x.j.toList == j.toList with
      | true => rfl
      | false => exact absurd (.inl e) h
    · rw [if_neg h]
      cases s with
      | none => exact .inl ⟨rfl, rfl⟩
      | some b =>
        refine .inr ⟨b, rfl, ?_⟩
        by_cases c : x.y > b.y ∨ x.y = b.y ∧ x.p > b.p
        · exact .inl ⟨c, by simp only; rw [if_pos c]⟩
        · exact .inr ⟨c, by simp only; rw [if_neg c]⟩
/-- What the best one is. -/
def isBest (j : ByteArray) (y p : Int) (l : List Ro) (s : Option Ro) : Prop := match s with
  | none => ∀ x ∈ l, ¬ okR j y p x
  | some b => b ∈ l ∧ okR j y p b ∧ ∀ x ∈ l, okR j y p x → x.y < b.y ∨ (x.y = b.y ∧ x.p ≤ b.p)
theorem best_is (j : ByteArray) (y p : Int) : ∀ (l m : List Ro) (s : Option Ro), isBest j y p m s → isBest j y p (m ++ l) (l.foldl (stepB j y p) s)
  | [], m, s, h => by rw [List.append_nil]; exact h
  | x :: l, m, s, h => by
    rw [List.foldl_cons, show m ++ x :: l = (m ++ [x]) ++ l by simp]
    refine best_is j y p l (m ++ [x]) _ ?_
    rcases step_eq (j := j) (y := y) (p := p) (s := s) (x := x) with ⟨h1, h2⟩ | ⟨h1, ⟨rfl, h2⟩ | ⟨b, rfl, ⟨h2, h3⟩ | ⟨h2, h3⟩⟩⟩
    · rw [h2]
      cases s with
      | none =>
        intro z hz
        rcases List.mem_append.1 hz with hz | hz
        · exact h z hz
        · rw [List.mem_singleton.1 hz]; exact h1
      | some b =>
        refine ⟨List.mem_append_left _ h.1, h.2.1, fun z hz ho => ?_⟩
        rcases List.mem_append.1 hz with hz | hz
        · exact h.2.2 z hz ho
        · rw [List.mem_singleton.1 hz] at ho; exact absurd ho h1
    · rw [h2]
      refine ⟨by simp, h1, fun z hz ho => ?_⟩
      rcases List.mem_append.1 hz with hz | hz
      · exact absurd ho (h z hz)
      · rw [List.mem_singleton.1 hz]; omega
    · rw [h3]
      refine ⟨by simp, h1, fun z hz ho => ?_⟩
      rcases List.mem_append.1 hz with hz | hz
      · have := h.2.2 z hz ho; omega
      · rw [List.mem_singleton.1 hz]; omega
    · rw [h3]
      refine ⟨List.mem_append_left _ h.1, h.2.1, fun z hz ho => ?_⟩
      rcases List.mem_append.1 hz with hz | hz
      · exact h.2.2 z hz ho
      · rw [List.mem_singleton.1 hz]; omega
theorem bestF_is (j : ByteArray) (y p : Int) (l : List Ro) : isBest j y p l (bestF j y p l) := by
  have := best_is j y p l [] none (fun x hx => by cases hx)
  rwa [List.nil_append] at this
/-- No two of one place, year and period. -/
def Apt (a b : Ro) : Prop := sameR b.j b.y b.p a = false
theorem apt_symm {a b : Ro} (h : Apt a b) : Apt b a := by
  unfold Apt sameR at *
  have e1 : (b.j.toList == a.j.toList) = (a.j.toList == b.j.toList) := by rw [Bool.eq_iff_iff, beq_iff_eq, beq_iff_eq]; exact eq_comm
  have e2 : (b.y == a.y) = (a.y == b.y) := by rw [Bool.eq_iff_iff, beq_iff_eq, beq_iff_eq]; exact eq_comm
  have e3 : (b.p == a.p) = (a.p == b.p) := by rw [Bool.eq_iff_iff, beq_iff_eq, beq_iff_eq]; exact eq_comm
  rw [e1, e2, e3]; exact h
theorem pair_mem : ∀ {l : List Ro}, l.Pairwise Apt → ∀ a ∈ l, ∀ b ∈ l, a = b ∨ Apt a b
  | [], _, a, ha, _, _ => by cases ha
  | x :: l, h, a, ha, b, hb => by
    obtain ⟨h1, h2⟩ := List.pairwise_cons.1 h
    rcases List.mem_cons.1 ha with ea | ha'
    · rcases List.mem_cons.1 hb with eb | hb'
      · exact .inl (ea.trans eb.symm)
      · rw [ea]; exact .inr (h1 b hb')
    · rcases List.mem_cons.1 hb with eb | hb'
      · rw [eb]; exact .inr (apt_symm (h1 a ha'))
      · exact pair_mem h2 a ha' b hb'
theorem best_rev {j : ByteArray} {y p : Int} {l : List Ro} (h : l.Pairwise Apt) : bestF j y p l.reverse = bestF j y p l := by
  have a := bestF_is j y p l
  have b := bestF_is j y p l.reverse
  generalize bestF j y p l.reverse = B at *
  generalize bestF j y p l = A at *
  cases A with
  | none =>
    cases B with
    | none => rfl
    | some x => exact absurd b.2.1 (a x (List.mem_reverse.1 b.1))
  | some z =>
    cases B with
    | none => exact absurd a.2.1 (b z (List.mem_reverse.2 a.1))
    | some x =>
      have h1 := a.2.2 x (List.mem_reverse.1 b.1) b.2.1
      have h2 := b.2.2 z (List.mem_reverse.2 a.1) a.2.1
      rcases pair_mem h x (List.mem_reverse.1 b.1) z a.1 with e | e
      · rw [e]
      · exfalso
        unfold Apt sameR at e
        have e1 := a.2.1.1
        have e2 := b.2.1.1
        have e1 : z.j.toList = j.toList := by simpa using e1
        have e2 : x.j.toList = j.toList := by simpa using e2
        have e3 : x.y = z.y := by omega
        have e4 : x.p = z.p := by omega
        rw [e1, e2, e3, e4] at e
        simp at e
theorem any_apt {l : List Ro} {x : Ro} (h : ∀ a ∈ l, Apt a x) : l.any (sameR x.j x.y x.p) = false :=
  List.any_eq_false.2 fun a ha => by rw [h a ha]; decide
theorem apt_any {l : List Ro} {x : Ro} (h : l.any (sameR x.j x.y x.p) = false) : ∀ a ∈ l, Apt a x := fun a ha => by
  have := List.any_eq_false.1 h a ha
  unfold Apt
  cases e : sameR x.j x.y x.p a with
  | true => exact absurd e this
  | false => rfl

/-! ### Objects apart -/
def Off (v v' : SV) : Prop := ∀ k, isAt v k → ¬ isAt v' k
theorem Off.symm {v v' : SV} (a : Off v v') : Off v' v := fun k h h' => a k h' h
theorem off_nils (v : SV) : Off .nils v := fun k ⟨_, _, _, e⟩ => by cases e
theorem off_new {b t : Nat} {enc : Ro → List SV} {h : LH} {v v' : SV} {l : List Ro} (r : Ow b h t enc v l) (hn : ∀ k, isAt v' k → h.length ≤ k) : Off v v' := by
  rintro k ⟨p, o, n, rfl⟩ hk
  have := hn k hk
  rcases r with ⟨_, e⟩ | ⟨j, _, e, r3⟩
  · cases e
  · obtain rfl := (SV.sl.inj e).1
    have := lt_of_some r3
    omega
theorem ow_at {b : Nat} {h : LH} {v : SV} {l : List Ro} (r : Ow b h 63 encR v l) {k : Nat} (hk : isAt v k) : h[k]? = some (.own 63 (l.flatMap encR)) := by
  obtain ⟨p, o, n, rfl⟩ := hk
  rcases r with ⟨_, e⟩ | ⟨j, _, e, r3⟩
  · cases e
  · obtain rfl := (SV.sl.inj e).1
    exact r3
theorem ow_keep {b : Nat} {h h' : LH} {v : SV} {l : List Ro} (r : Ow b h 63 encR v l) (hk : ∀ k, isAt v k → h'[k]? = h[k]?) : Ow b h' 63 encR v l := by
  rcases r with r | ⟨j, r1, r2, r3⟩
  · exact .inl r
  · exact .inr ⟨j, r1, r2, by rw [hk j ⟨_, _, _, r2⟩]; exact r3⟩
theorem kill_get {v : SV} {h s : LH} {k : Nat} (hk : ¬ isAt v k) (hl : k < h.length) : (kill v h ++ s)[k]? = h[k]? := by
  rw [get_lt (by rw [kill_len]; exact hl)]
  cases v <;> first
    | rfl
    | (rename_i i p o n
       show (h.set i _)[k]? = _
       exact get_ne (fun e => hk ⟨p, o, n, by rw [e]⟩))
/-- A table stays. -/
theorem tb_keep {b i : Nat} {h h' : LH} {v : SV} {l : List Ro} (t : Tb b h i v l) (ho : h'[i]? = h[i]?) (hk : ∀ k, isAt v k → h'[k]? = h[k]?) : Tb b h' i v l := ⟨t.base, by rw [ho]; exact t.obj, ow_keep t.rows hk, t.len⟩
theorem tb_not {b i k : Nat} {h : LH} {v : SV} {l : List Ro} {vs : List SV} (t : Tb b h i v l) (hk : h[k]? = some (.own 79 vs)) : ¬ isAt v k := fun ha => by
  have := (ow_at t.rows ha).symm.trans hk
  simp only [Option.some.injEq, LO.own.injEq] at this
  exact absurd this.1 (by decide)
theorem ow_not {b k : Nat} {h : LH} {v : SV} {l : List Ro} {vs : List SV} (t : Ow b h 63 encR v l) (hk : h[k]? = some (.own 79 vs)) : ¬ isAt v k := fun ha => by
  have := (ow_at t ha).symm.trans hk
  simp only [Option.some.injEq, LO.own.injEq] at this
  exact absurd this.1 (by decide)
theorem ow_lt {b k : Nat} {h : LH} {v : SV} {l : List Ro} (t : Ow b h 63 encR v l) (ha : isAt v k) : k < h.length := lt_of_some (ow_at t ha)
end Go.Proofs.Ytcimcccnhbbncaa.Ev.CE
