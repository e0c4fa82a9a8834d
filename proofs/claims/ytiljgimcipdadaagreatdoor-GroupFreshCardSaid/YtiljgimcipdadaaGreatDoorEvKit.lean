/- Words and rules for walks on the small machine: what a heap keeps, lists in it, and what a piece of code comes to. -/
import Derived.Test.YtiljgimcipdadaaGreatDoorEvLim
set_option linter.unusedVariables false
set_option linter.unusedSimpArgs false
namespace Go.Proofs.YtiljgimcipdadaaGreatDoor.Ev
open Go

/-! ### Heaps -/
theorem lt_of_some {h : LH} {i : Nat} {o : LO} (e : h[i]? = some o) : i < h.length := (List.getElem?_eq_some_iff.1 e).1
theorem get_lt {h r : LH} {i : Nat} (hi : i < h.length) : (h ++ r)[i]? = h[i]? := List.getElem?_append_left hi
theorem set_lt {h r : LH} {i : Nat} {x : LO} (hi : i < h.length) : (h ++ r).set i x = h.set i x ++ r := List.set_append_left _ _ hi
theorem get_len {h r : LH} {x : LO} : (h ++ x :: r)[h.length]? = some x := by
  rw [List.getElem?_append_right (Nat.le_refl _), Nat.sub_self]; rfl
theorem get_len_add {h r : LH} {k : Nat} : (h ++ r)[h.length + k]? = r[k]? := by
  rw [List.getElem?_append_right (by omega)]; congr 1; omega
theorem set_len {h r : LH} {x y : LO} : (h ++ x :: r).set h.length y = h ++ y :: r := by
  rw [List.set_append_right _ _ (Nat.le_refl _), Nat.sub_self]; rfl
theorem set_len_add {h r : LH} {k : Nat} {y : LO} : (h ++ r).set (h.length + k) y = h ++ r.set k y := by
  rw [List.set_append_right _ _ (by omega)]; congr 2; omega
theorem get_ne {h : LH} {i j : Nat} {x : LO} (hne : i ≠ j) : (h.set i x)[j]? = h[j]? := List.getElem?_set_ne hne
theorem get_self {h : LH} {i : Nat} {x : LO} (hi : i < h.length) : (h.set i x)[i]? = some x := List.getElem?_set_self hi

/-- What was there stays as it was. -/
structure Gr (h h' : LH) : Prop where
  le : h.length ≤ h'.length
  same : ∀ i, i < h.length → h'[i]? = h[i]?
theorem Gr.refl (h : LH) : Gr h h := ⟨Nat.le_refl _, fun _ _ => rfl⟩
theorem Gr.trans {a b c : LH} (x : Gr a b) (y : Gr b c) : Gr a c := ⟨Nat.le_trans x.le y.le, fun i hi => (y.same i (Nat.lt_of_lt_of_le hi x.le)).trans (x.same i hi)⟩
theorem Gr.app {h h' : LH} (x : Gr h h') (r : LH) : Gr h (h' ++ r) := ⟨by rw [List.length_append]; have := x.le; omega, fun i hi => by rw [get_lt (Nat.lt_of_lt_of_le hi x.le)]; exact x.same i hi⟩
theorem Gr.self (h r : LH) : Gr h (h ++ r) := (Gr.refl h).app r
theorem Gr.set {h h' : LH} (x : Gr h h') {i : Nat} (o : LO) (hi : h.length ≤ i) : Gr h (h'.set i o) := ⟨by rw [List.length_set]; exact x.le, fun j hj => by rw [get_ne (by omega)]; exact x.same j hj⟩
theorem Gr.get {h h' : LH} (x : Gr h h') {i : Nat} {o : LO} (e : h[i]? = some o) : h'[i]? = some o := by rw [x.same i (lt_of_some e)]; exact e

/-- An object's cells. -/
def cellsO : LO → Option (Nat × List SV)
  | .own t vs => some (t, vs)
  | .ro t vs => some (t, vs)
  | _ => none
theorem cellsOf_bind {h : LH} {i : Nat} : cellsOf h i = (h[i]?).bind cellsO := by
  unfold cellsOf
  cases h[i]? with
  | none => rfl
  | some o => cases o <;> rfl
theorem cellsO_own {t : Nat} {vs : List SV} : cellsO (.own t vs) = some (t, vs) := rfl
theorem cellsO_ro {t : Nat} {vs : List SV} : cellsO (.ro t vs) = some (t, vs) := rfl

/-! ### Lists in a heap -/
section
variable {α : Type} {enc : α → List SV} {t z : Nat}

theorem flat_len (he : ∀ a, (enc a).length = z) : ∀ (l : List α), (l.flatMap enc).length = l.length * z
  | [] => by simp
  | a :: l => by rw [List.flatMap_cons, List.length_append, he, flat_len he l, List.length_cons, Nat.succ_mul]; omega

theorem flat_at (he : ∀ a, (enc a).length = z) : ∀ (l : List α) (k : Nat) (hk : k < l.length), ((l.flatMap enc).drop (k * z)).take z = enc l[k]
  | a :: l, 0, _ => by
    rw [Nat.zero_mul, List.drop_zero, List.flatMap_cons]
    show List.take z (enc a ++ _) = enc a
    rw [← he a, List.take_left']; rfl
  | a :: l, k + 1, hk => by
    rw [List.flatMap_cons, show (k + 1) * z = (enc a).length + k * z by rw [he, Nat.succ_mul]; omega, List.drop_append, List.drop_eq_nil_of_le (by omega), List.nil_append, Nat.add_sub_cancel_left]
    exact flat_at he l k (by simpa using hk)

/-- Whole elements of it. -/
theorem flat_take (he : ∀ a, (enc a).length = z) : ∀ (l : List α) (n : Nat), (l.flatMap enc).take (n * z) = (l.take n).flatMap enc
  | [], n => by simp
  | a :: l, 0 => by simp
  | a :: l, n + 1 => by
    rw [List.flatMap_cons, show (n + 1) * z = (enc a).length + n * z by rw [he, Nat.succ_mul]; omega, List.take_append, List.take_of_length_le (by omega), Nat.add_sub_cancel_left, flat_take he l n]
    rfl
theorem flat_drop (he : ∀ a, (enc a).length = z) : ∀ (l : List α) (n : Nat), (l.flatMap enc).drop (n * z) = (l.drop n).flatMap enc
  | [], n => by simp
  | a :: l, 0 => by simp
  | a :: l, n + 1 => by
    rw [List.flatMap_cons, show (n + 1) * z = (enc a).length + n * z by rw [he, Nat.succ_mul]; omega, List.drop_append, List.drop_eq_nil_of_le (by omega), Nat.add_sub_cancel_left, flat_drop he l n]
    rfl

/-- A list that can be read. -/
def Rd (h : LH) (t z : Nat) (enc : α → List SV) (v : SV) (l : List α) : Prop :=
  (l = [] ∧ (v = .nils ∨ ∃ i p o, v = .sl0 i p o)) ∨ ∃ i p o ob vs, v = .sl i p o l.length ∧ h[i]? = some ob ∧ cellsO ob = some (t, vs) ∧ (o + l.length) * z ≤ vs.length ∧ (vs.drop (o * z)).take (l.length * z) = l.flatMap enc

/-- A list of one's own, that may be made longer: its object is not older than b. -/
def Ow (b : Nat) (h : LH) (t : Nat) (enc : α → List SV) (v : SV) (l : List α) : Prop :=
  (l = [] ∧ v = .nils) ∨ ∃ j, b ≤ j ∧ v = .sl j 0 0 l.length ∧ h[j]? = some (.own t (l.flatMap enc))

theorem Rd.gr {h h' : LH} {v : SV} {l : List α} (r : Rd h t z enc v l) (g : Gr h h') : Rd h' t z enc v l := by
  rcases r with r | ⟨i, p, o, ob, vs, r1, r2, r3⟩
  · exact .inl r
  · exact .inr ⟨i, p, o, ob, vs, r1, g.get r2, r3⟩
theorem Ow.gr {b : Nat} {h h' : LH} {v : SV} {l : List α} (r : Ow b h t enc v l) (g : Gr h h') : Ow b h' t enc v l := by
  rcases r with r | ⟨j, r1, r2, r3⟩
  · exact .inl r
  · exact .inr ⟨j, r1, r2, g.get r3⟩
theorem Ow.nil (b : Nat) (h : LH) : Ow b h t enc .nils [] := .inl ⟨rfl, rfl⟩
theorem Ow.base {b b' : Nat} {h : LH} {v : SV} {l : List α} (r : Ow b h t enc v l) (hb : b' ≤ b) : Ow b' h t enc v l := by
  rcases r with r | ⟨j, r1, r2, r3⟩
  · exact .inl r
  · exact .inr ⟨j, by omega, r2, r3⟩
theorem Ow.rd {b : Nat} {h : LH} {v : SV} {l : List α} (r : Ow b h t enc v l) (he : ∀ a, (enc a).length = z) : Rd h t z enc v l := by
  rcases r with ⟨r1, r2⟩ | ⟨j, r1, r2, r3⟩
  · exact .inl ⟨r1, .inl r2⟩
  · refine .inr ⟨j, 0, 0, _, _, r2, r3, rfl, ?_, ?_⟩
    · rw [flat_len he]; simp
    · rw [Nat.zero_mul, List.drop_zero, ← flat_len he l, List.take_length]
theorem Rd.len {h : LH} {v : SV} {l : List α} (r : Rd h t z enc v l) : lenE v = some l.length := by
  rcases r with ⟨rfl, rfl | ⟨i, p, o, rfl⟩⟩ | ⟨i, p, o, ob, vs, rfl, _⟩ <;> rfl
theorem Ow.len {b : Nat} {h : LH} {v : SV} {l : List α} (r : Ow b h t enc v l) : lenE v = some l.length := by
  rcases r with ⟨rfl, rfl⟩ | ⟨j, _, rfl, _⟩ <;> rfl
/-- A literal's object. -/
theorem Rd.lit {h : LH} {i p : Nat} {l : List α} (he : ∀ a, (enc a).length = z) (e : h[i]? = some (.own t (l.flatMap enc))) : Rd h t z enc (.sl i p 0 l.length) l := by
  refine .inr ⟨i, p, 0, _, _, rfl, e, rfl, ?_, ?_⟩
  · rw [flat_len he]; simp
  · rw [Nat.zero_mul, List.drop_zero, ← flat_len he l, List.take_length]

/-- An element of it. -/
theorem Rd.at {h : LH} {v : SV} {l : List α} (r : Rd h t z enc v l) (he : ∀ a, (enc a).length = z) {k : Nat} (hk : k < l.length) :
    ∃ i p o ob vs, v = .sl i p o l.length ∧ h[i]? = some ob ∧ cellsO ob = some (t, vs) ∧ (o + k) * z + z ≤ vs.length ∧ (vs.drop ((o + k) * z)).take z = enc l[k] ∧ ∀ c, c < z → vs[(o + k) * z + c]? = (enc l[k])[c]? := by
  rcases r with ⟨rfl, _⟩ | ⟨i, p, o, ob, vs, r1, r2, r3, r4, r5⟩
  · simp at hk
  · have e1 : (o + k) * z = o * z + k * z := Nat.add_mul _ _ _
    have e2 : (o + l.length) * z = o * z + l.length * z := Nat.add_mul _ _ _
    have e3 : (k + 1) * z ≤ l.length * z := Nat.mul_le_mul_right _ hk
    rw [Nat.succ_mul] at e3
    have key : (vs.drop ((o + k) * z)).take z = enc l[k] := by
      rw [← flat_at he l k hk, ← r5, e1, ← List.drop_drop, List.drop_take, List.take_take, Nat.min_eq_left (by omega)]
    refine ⟨i, p, o, ob, vs, r1, r2, r3, by omega, key, fun c hc => ?_⟩
    rw [← key, List.getElem?_take, if_pos hc, List.getElem?_drop]

/-- All its cells. -/
theorem Rd.elems {h : LH} {v : SV} {l : List α} (r : Rd h t z enc v l) : elems h t z v = some (l.flatMap enc) := by
  rcases r with ⟨rfl, rfl | ⟨i, p, o, rfl⟩⟩ | ⟨i, p, o, ob, vs, rfl, r2, r3, r4, r5⟩
  · rfl
  · rfl
  · cases l with
    | nil => rfl
    | cons a l =>
      unfold Ev.elems
      simp only [List.length_cons] at r4 r5 ⊢
      rw [cellsOf_bind, r2, Option.bind_some, r3]
      simp only [if_true]
      rw [if_pos r4, r5]

theorem appE_nils {h : LH} {t z y n : Nat} {new : List SV} (hn : n ≠ 0) (hy : n * y ≤ 140737488355328) : appE h t z y .nils n new = some (.s (.sl h.length 0 0 n), h ++ [.own t new]) := by
  unfold appE; simp [hn, hy]
theorem appE_sl0 {h : LH} {t z y i p o n : Nat} {new : List SV} (hn : n ≠ 0) (hy : n * y ≤ 140737488355328) : appE h t z y (.sl0 i p o) n new = some (.s (.sl h.length 0 0 n), h ++ [.own t new]) := by
  unfold appE; simp [hn, hy]
theorem appE_own {h : LH} {t z y i p o m n : Nat} {vs new : List SV} (hi : h[i]? = some (.own t vs)) (hn : n ≠ 0) (hom : (o + m) * z ≤ vs.length) (hy : (m + n) * y ≤ 140737488355328) :
    appE h t z y (.sl i p o m) n new = some (.s (.sl h.length 0 0 (m + n)), h.set i .dead ++ [.own t ((vs.drop (o * z)).take (m * z) ++ new)]) := by
  unfold appE; simp [hn, hi, hom, hy]
theorem appE_zero_nils {h : LH} {t z y : Nat} {new : List SV} : appE h t z y .nils 0 new = some (.s .nils, h) := by
  unfold appE; simp
theorem appE_zero_sl0 {h : LH} {t z y i p o : Nat} {new : List SV} : appE h t z y (.sl0 i p o) 0 new = some (.s (.sl0 i p o), h) := by
  unfold appE; simp
theorem appE_zero_sl {h : LH} {t z y i p o m : Nat} {new : List SV} : appE h t z y (.sl i p o m) 0 new = some (.s (.sl i p o m), h) := by
  unfold appE; simp

/-- A list's object is used up. -/
def kill : SV → LH → LH
  | .sl i _ _ _, h => h.set i .dead
  | _, h => h
theorem kill_len {v : SV} {h : LH} : (kill v h).length = h.length := by
  cases v <;> simp [kill]
theorem kill_gr {hb h : LH} {v : SV} {l : List α} (g : Gr hb h) (r : Ow hb.length h t enc v l) : Gr hb (kill v h) := by
  rcases r with ⟨_, rfl⟩ | ⟨j, r1, rfl, _⟩
  · exact g
  · exact g.set _ r1
/-- Some elements more. -/
theorem Ow.app {b : Nat} {h : LH} {v : SV} {l : List α} (r : Ow b h t enc v l) (he : ∀ a, (enc a).length = z) {n y : Nat} (hn : n ≠ 0) (hy : (l.length + n) * y ≤ 140737488355328) (new : List SV) (q : LH) :
    appE (h ++ q) t z y v n new = some (.s (.sl (h ++ q).length 0 0 (l.length + n)), kill v (h ++ q) ++ [.own t (l.flatMap enc ++ new)]) := by
  have r' := r.gr (Gr.self h q)
  rcases r' with ⟨rfl, rfl⟩ | ⟨j, r1, rfl, r3⟩
  · simp only [List.length_nil, Nat.zero_add] at hy ⊢
    rw [appE_nils hn hy]; simp [kill]
  · rw [appE_own r3 hn (by rw [flat_len he]; simp) hy, Nat.zero_mul, List.drop_zero, ← flat_len he l, List.take_length]
    rfl
theorem Ow.next {b : Nat} {h : LH} {v : SV} {l new : List α} {n : Nat} (hb : b ≤ h.length) (hn : n = l.length + new.length) : Ow b (kill v h ++ [.own t (l.flatMap enc ++ new.flatMap enc)]) t enc (.sl h.length 0 0 n) (l ++ new) := by
  refine .inr ⟨h.length, hb, by rw [List.length_append, hn], ?_⟩
  have : (kill v h).length = h.length := kill_len
  rw [← this, get_len, List.flatMap_append]
/-- One element more. -/
theorem Ow.app1 {b : Nat} {h : LH} {v : SV} {l : List α} (r : Ow b h t enc v l) (he : ∀ a, (enc a).length = z) {y : Nat} (hy : (l.length + 1) * y ≤ 140737488355328) (q : LH) (new : List SV) :
    appE (h ++ q) t z y v 1 new = some (.s (.sl (h ++ q).length 0 0 (l.length + 1)), kill v (h ++ q) ++ [.own t (l.flatMap enc ++ new)]) := r.app he (by omega) hy new q
theorem Ow.step {hb h : LH} {v : SV} {l : List α} (g : Gr hb h) (r : Ow hb.length h t enc v l) (x : α) (q : LH) {m n : Nat} {cs : List SV} (hm : m = q.length) (hn : n = l.length + 1) (hc : cs = enc x) :
    Gr hb (kill v (h ++ q) ++ [.own t (l.flatMap enc ++ cs)]) ∧ Ow hb.length (kill v (h ++ q) ++ [.own t (l.flatMap enc ++ cs)]) t enc (.sl (h.length + m) 0 0 n) (l ++ [x]) := by
  subst hm hn hc
  refine ⟨(kill_gr (g.app q) (r.gr (Gr.self h q))).app _, ?_⟩
  have := Ow.next (t := t) (enc := enc) (v := v) (l := l) (new := [x]) (n := l.length + 1) (g.app q).le rfl
  simpa using this
/-- What is newer than a list's object stays when that is used up. -/
theorem Ow.kill_new {b : Nat} {h : LH} {v : SV} {l : List α} (r : Ow b h t enc v l) (q s : LH) (m : Nat) (hm : m < q.length) : (kill v (h ++ q) ++ s)[h.length + m]? = q[m]? := by
  rw [List.getElem?_append_left (by rw [kill_len, List.length_append]; omega)]
  rcases r with ⟨_, rfl⟩ | ⟨j, r1, rfl, r3⟩
  · exact get_len_add
  · have := lt_of_some r3
    show ((h ++ q).set j _)[_]? = _
    rw [get_ne (by omega), get_len_add]
theorem Ow.set {b : Nat} {h : LH} {v : SV} {l : List α} (r : Ow b h t enc v l) {i : Nat} (hi : i < b) (o : LO) : Ow b (h.set i o) t enc v l := by
  rcases r with r | ⟨j, r1, r2, r3⟩
  · exact .inl r
  · exact .inr ⟨j, r1, r2, by rw [get_ne (by omega)]; exact r3⟩
theorem Ow.kill_other {β : Type} {enc' : β → List SV} {t' : Nat} {b b' : Nat} {h : LH} {v v' : SV} {l : List α} {l' : List β} (r : Ow b h t enc v l) (r' : Ow b' h t' enc' v' l') (ht : t ≠ t') (q : LH) : Ow b' (kill v (h ++ q)) t' enc' v' l' := by
  rcases r' with r' | ⟨j', s1, s2, s3⟩
  · exact .inl r'
  · refine .inr ⟨j', s1, s2, ?_⟩
    rcases r with ⟨_, rfl⟩ | ⟨j, r1, rfl, r3⟩
    · show (h ++ q)[j']? = _
      rw [get_lt (lt_of_some s3)]; exact s3
    · show ((h ++ q).set j .dead)[j']? = _
      have hne : j ≠ j' := fun e => by
        subst e
        have := r3.symm.trans s3
        simp only [Option.some.injEq, LO.own.injEq] at this
        exact ht this.1
      rw [get_ne hne, get_lt (lt_of_some s3)]; exact s3
theorem Ow.set2 {b : Nat} {h : LH} {v : SV} {l : List α} (r : Ow b h t enc v l) {i : Nat} (hi : ∀ p o n, v ≠ .sl i p o n) (x : LO) : Ow b (h.set i x) t enc v l := by
  rcases r with r | ⟨j, r1, r2, r3⟩
  · exact .inl r
  · exact .inr ⟨j, r1, r2, by rw [get_ne (fun e => hi _ _ _ (by rw [r2, e]))]; exact r3⟩
theorem Ow.kill_new0 {b : Nat} {h : LH} {v : SV} {l : List α} (r : Ow b h t enc v l) (x : LO) (q s : LH) : (kill v (h ++ x :: q) ++ s)[h.length]? = some x := r.kill_new (x :: q) s 0 (by simp)
end

/-- What was there stays as it was, but for one object. -/
structure GrBut (i : Nat) (h h' : LH) : Prop where
  le : h.length ≤ h'.length
  same : ∀ j, j < h.length → j ≠ i → h'[j]? = h[j]?
theorem Gr.but {h h' : LH} (g : Gr h h') (i : Nat) : GrBut i h h' := ⟨g.le, fun j hj _ => g.same j hj⟩
theorem GrBut.trans {i : Nat} {a b c : LH} (x : GrBut i a b) (y : GrBut i b c) : GrBut i a c := ⟨Nat.le_trans x.le y.le, fun j hj hn => (y.same j (Nat.lt_of_lt_of_le hj x.le) hn).trans (x.same j hj hn)⟩
theorem GrBut.set {h h' : LH} (x : Gr h h') {i : Nat} (o : LO) : GrBut i h (h'.set i o) := ⟨by rw [List.length_set]; exact x.le, fun j hj hn => by rw [get_ne (Ne.symm hn)]; exact x.same j hj⟩
/-- An object that is newer: all that was there stays. -/
theorem GrBut.gr {i : Nat} {a h h' : LH} (x : GrBut i h h') (g : Gr a h) (hi : a.length ≤ i) : Gr a h' := ⟨Nat.le_trans g.le x.le, fun j hj => (x.same j (Nat.lt_of_lt_of_le hj g.le) (by omega)).trans (g.same j hj)⟩
theorem GrBut.get {i j : Nat} {h h' : LH} (x : GrBut i h h') {o : LO} (hn : j ≠ i) (e : h[j]? = some o) : h'[j]? = some o := by rw [x.same j (lt_of_some e) hn]; exact e

def encI (n : Int) : List SV := [.int .i64 n]
theorem encI_len (n : Int) : (encI n).length = 1 := rfl
def encS (s : ByteArray) : List SV := [.str s]
theorem encS_len (s : ByteArray) : (encS s).length = 1 := rfl
theorem encI_flat (l : List Int) : l.flatMap encI = l.map (.int .i64) := by
  induction l with
  | nil => rfl
  | cons a l ih => rw [List.flatMap_cons, ih]; rfl

/-- An element of a list of one cell each. -/
theorem Rd.at1 {α : Type} {enc : α → List SV} {t : Nat} {f : α → SV} {h : LH} {v : SV} {l : List α} (r : Rd h t 1 enc v l) (he : ∀ a, enc a = [f a]) {k : Nat} (hk : k < l.length) :
    ∃ i p o ob vs, v = .sl i p o l.length ∧ h[i]? = some ob ∧ cellsO ob = some (t, vs) ∧ vs[o + k]? = some (f l[k]) := by
  obtain ⟨i, p, o, ob, vs, r1, r2, r3, r4, r5, r6⟩ := r.at (fun a => by rw [he]; rfl) hk
  refine ⟨i, p, o, ob, vs, r1, r2, r3, ?_⟩
  have := r6 0 (by omega)
  rw [he] at this
  simpa using this
theorem Rd.int {t : Nat} {h : LH} {v : SV} {l : List Int} (r : Rd h t 1 encI v l) {k : Nat} (hk : k < l.length) :
    ∃ i p o ob vs, v = .sl i p o l.length ∧ h[i]? = some ob ∧ cellsO ob = some (t, vs) ∧ vs[o + k]? = some (.int .i64 l[k]) := r.at1 (fun _ => rfl) hk

/-- A number of a list of one's own, to be written. -/
theorem Ow.int_at {b t : Nat} {h : LH} {v : SV} {l : List Int} (r : Ow b h t encI v l) {k : Nat} (hk : k < l.length) : ∃ j, b ≤ j ∧ v = .sl j 0 0 l.length ∧ h[j]? = some (.own t (l.map (.int .i64))) ∧ ∀ x, Ow b (h.set j (.own t ((l.map (.int .i64)).set k (.int .i64 x)))) t encI v (l.set k x) := by
  rcases r with ⟨rfl, _⟩ | ⟨j, r1, rfl, r3⟩
  · simp at hk
  · rw [encI_flat] at r3
    refine ⟨j, r1, rfl, r3, fun x => .inr ⟨j, r1, by simp, ?_⟩⟩
    rw [get_self (lt_of_some r3), encI_flat, List.map_set]
/-- A copy of a list of any kind. -/
theorem copy_gen {α : Type} {enc : α → List SV} {t z y : Nat} {h : LH} {v : SV} {l : List α} (r : Rd h t z enc v l) (hy : l.length * y ≤ 140737488355328) : ∃ w r', appE h t z y .nils l.length (l.flatMap enc) = some (.s w, h ++ r') ∧ Ow h.length (h ++ r') t enc w l := by
  by_cases e : l.length = 0
  · obtain rfl : l = [] := List.eq_nil_of_length_eq_zero e
    exact ⟨.nils, [], by rw [List.length_nil, appE_zero_nils]; simp, Ow.nil _ _⟩
  · refine ⟨_, _, appE_nils e hy, .inr ⟨h.length, Nat.le_refl _, rfl, ?_⟩⟩
    rw [get_len]
/-- A copy of a list. -/
theorem copy_app {t y : Nat} {h : LH} {v : SV} {l : List Int} (r : Rd h t 1 encI v l) (hy : l.length * y ≤ 140737488355328) : ∃ w r', appE h t 1 y .nils l.length (l.map (.int .i64)) = some (.s w, h ++ r') ∧ Ow h.length (h ++ r') t encI w l := by
  by_cases e : l.length = 0
  · obtain rfl : l = [] := List.eq_nil_of_length_eq_zero e
    exact ⟨.nils, [], by rw [List.length_nil, appE_zero_nils]; simp, Ow.nil _ _⟩
  · refine ⟨_, _, appE_nils e hy, .inr ⟨h.length, Nat.le_refl _, rfl, ?_⟩⟩
    rw [get_len, encI_flat]
theorem wrap_small {n : Int} (h0 : -9223372036854775808 ≤ n) (h1 : n < 9223372036854775808) : IntKind.i64.wrap n = n := by
  simp [IntKind.wrap, IntKind.bits, IntKind.signed]; omega

/-! ### What code comes to -/
/-- A call comes to something. -/
def WPc (C : Nat → Option EF) (f : Nat) (args : List FV) (h : LH) (Φ : FV → LH → Prop) : Prop := ∃ v h', callX C f args h = some (v, h') ∧ Φ v h'
/-- Code comes to something. -/
def WPk (C : Nat → Option EF) (c : EC) (fr : Fr) (h : LH) (Φ : Ex → Fr → LH → Prop) : Prop := ∃ x fr' h', codeL (callX C) c fr h = some (x, fr', h') ∧ Φ x fr' h'
def WPo (C : Nat → Option EF) (l : List EG) (fr : Fr) (h : LH) (Φ : Fr → LH → Prop) : Prop := ∃ fr' h', opsE (callX C) l fr h = some (fr', h') ∧ Φ fr' h'
def WPs (C : Nat → Option EF) (o : EO) (fr : Fr) (h : LH) (Φ : FV → LH → Prop) : Prop := ∃ v h', stepE (callX C) fr h o = some (v, h') ∧ Φ v h'
def WPl (C : Nat → Option EF) (b : EC) (keep : List Nat) (fr : Fr) (h : LH) (Φ : Ex → Fr → LH → Prop) : Prop := ∃ x fr' h', loopX (codeL (callX C) b) keep fr h = some (x, fr', h') ∧ Φ x fr' h'
/-- The code behind. -/
def K (C : Nat → Option EF) (c : EC) (Φ : Ex → Fr → LH → Prop) : Ex → Fr → LH → Prop := fun x fr h => match x with
  | .normal => WPk C c fr h Φ
  | x => Φ x fr h
def KB (id : Nat) (Φ : Ex → Fr → LH → Prop) : Ex → Fr → LH → Prop := fun x fr h => match x with
  | .exit id' => if id' = id then Φ .normal fr h else Φ (.exit id') fr h
  | x => Φ x fr h
/-- The next round. -/
def KL (R : Fr → LH → Prop) (keep : List Nat) (Φ : Ex → Fr → LH → Prop) : Ex → Fr → LH → Prop := fun x fr h => match x with
  | .normal => R (keepF keep fr) h
  | x => Φ x fr h
/-- What a function hands back. -/
def KR (res : List ER) (Φ : FV → LH → Prop) : Ex → Fr → LH → Prop := fun x fr h => (x = .normal ∨ x = .ret) ∧ ∃ v, packL (ressE fr h res) h = some (v, h) ∧ Φ v h

section
variable {C : Nat → Option EF} {Φ : Ex → Fr → LH → Prop} {fr : Fr} {h : LH}
theorem WPc.mono {f : Nat} {args : List FV} {Φ Ψ : FV → LH → Prop} (w : WPc C f args h Φ) (hm : ∀ v h', Φ v h' → Ψ v h') : WPc C f args h Ψ := by
  obtain ⟨v, h', a, b⟩ := w
  exact ⟨v, h', a, hm v h' b⟩
theorem WPk.mono {c : EC} {Φ Ψ : Ex → Fr → LH → Prop} (w : WPk C c fr h Φ) (hm : ∀ x fr' h', Φ x fr' h' → Ψ x fr' h') : WPk C c fr h Ψ := by
  obtain ⟨x, fr', h', a, b⟩ := w
  exact ⟨x, fr', h', a, hm x fr' h' b⟩
theorem WPl.mono {c : EC} {keep : List Nat} {Φ Ψ : Ex → Fr → LH → Prop} (w : WPl C c keep fr h Φ) (hm : ∀ x fr' h', Φ x fr' h' → Ψ x fr' h') : WPl C c keep fr h Ψ := by
  obtain ⟨x, fr', h', a, b⟩ := w
  exact ⟨x, fr', h', a, hm x fr' h' b⟩
theorem WPc.intro {f : Nat} {e : EF} (hf : C f = some e) {args : List FV} (hl : args.length ≤ e.slots) {Φ : FV → LH → Prop} (w : WPk C e.body (initE 0 args) h (KR e.res Φ)) : WPc C f args h Φ := by
  obtain ⟨x, fr', h', a, hx, v, b, c⟩ := w
  refine ⟨v, h', callX_intro hf hl ?_, c⟩
  unfold bodyX
  rcases hx with rfl | rfl <;> rw [a] <;> exact b
theorem wp_seq {a b : EC} (w : WPk C a fr h (K C b Φ)) : WPk C (.seq a b) fr h Φ := by
  obtain ⟨x, fr', h', e, r⟩ := w
  cases x with
  | normal =>
    obtain ⟨x2, fr2, h2, e2, r2⟩ := r
    exact ⟨x2, fr2, h2, by simp only [codeL, e]; exact e2, r2⟩
  | exit id => exact ⟨_, _, _, by simp only [codeL, e], r⟩
  | goto l => exact ⟨_, _, _, by simp only [codeL, e], r⟩
  | ret => exact ⟨_, _, _, by simp only [codeL, e], r⟩
theorem K_normal {b : EC} : K C b Φ .normal fr h ↔ WPk C b fr h Φ := Iff.rfl
theorem K_ret {b : EC} : K C b Φ .ret fr h ↔ Φ .ret fr h := Iff.rfl
theorem K_exit {b : EC} {id : Nat} : K C b Φ (.exit id) fr h ↔ Φ (.exit id) fr h := Iff.rfl
theorem KB_normal {id : Nat} : KB id Φ .normal fr h ↔ Φ .normal fr h := Iff.rfl
theorem KB_ret {id : Nat} : KB id Φ .ret fr h ↔ Φ .ret fr h := Iff.rfl
theorem KB_exit {id id' : Nat} : KB id Φ (.exit id') fr h ↔ if id' = id then Φ .normal fr h else Φ (.exit id') fr h := Iff.rfl
theorem KL_normal {R : Fr → LH → Prop} {keep : List Nat} : KL R keep Φ .normal fr h ↔ R (keepF keep fr) h := Iff.rfl
theorem KL_ret {R : Fr → LH → Prop} {keep : List Nat} : KL R keep Φ .ret fr h ↔ Φ .ret fr h := Iff.rfl
theorem KL_exit {R : Fr → LH → Prop} {keep : List Nat} {id : Nat} : KL R keep Φ (.exit id) fr h ↔ Φ (.exit id) fr h := Iff.rfl
theorem KR_ret {res : List ER} {Φ : FV → LH → Prop} : KR res Φ .ret fr h ↔ ∃ v, packL (ressE fr h res) h = some (v, h) ∧ Φ v h := by simp [KR]
theorem KR_normal {res : List ER} {Φ : FV → LH → Prop} : KR res Φ .normal fr h ↔ ∃ v, packL (ressE fr h res) h = some (v, h) ∧ Φ v h := by simp [KR]
theorem wpk_skip : WPk C .skip fr h Φ ↔ Φ .normal fr h := ⟨fun ⟨_, _, _, e, r⟩ => by cases e; exact r, fun r => ⟨_, _, _, rfl, r⟩⟩
theorem wpk_seq {a b : EC} : WPk C (.seq a b) fr h Φ ↔ WPk C a fr h (K C b Φ) := by
  refine ⟨fun w => ?_, wp_seq⟩
  obtain ⟨x, fr', h', e, r⟩ := w
  simp only [codeL] at e
  split at e
  · rename_i fr1 h1 e1
    exact ⟨_, _, _, e1, x, fr', h', e, r⟩
  · rename_i hne
    refine ⟨_, _, _, e, ?_⟩
    cases x with
    | normal => exact absurd e (hne _ _)
    | exit id => exact r
    | goto l => exact r
    | ret => exact r
theorem wpk_cond {c : OD} {a b : EC} {t : Bool} (ht : odS fr c = some (.bool t)) : WPk C (.cond c a b) fr h Φ ↔ if t then WPk C a fr h Φ else WPk C b fr h Φ := by
  unfold WPk; simp only [codeL, ht]
  cases t <;> simp
theorem wpk_block {id : Nat} {b : EC} : WPk C (.block id b) fr h Φ ↔ WPk C b fr h (KB id Φ) := by
  constructor
  · rintro ⟨x, fr', h', e, r⟩
    simp only [codeL] at e
    split at e
    · rename_i id' fr1 h1 e1
      refine ⟨_, _, _, e1, ?_⟩
      rw [KB_exit]
      split at e
      · rename_i hid
        simp only [Option.some.injEq, Prod.mk.injEq] at e
        obtain ⟨rfl, rfl, rfl⟩ := e
        rw [if_pos hid]; exact r
      · rename_i hid
        simp only [Option.some.injEq, Prod.mk.injEq] at e
        obtain ⟨rfl, rfl, rfl⟩ := e
        rw [if_neg hid]; exact r
    · rename_i hne
      refine ⟨_, _, _, e, ?_⟩
      cases x with
      | normal => exact r
      | exit id' => exact absurd e (hne _ _ _)
      | goto l => exact r
      | ret => exact r
  · rintro ⟨x, fr', h', e, r⟩
    cases x with
    | exit id' =>
      rw [KB_exit] at r
      by_cases hid : id' = id
      · rw [if_pos hid] at r
        exact ⟨_, _, _, by simp only [codeL, e, if_pos hid], r⟩
      · rw [if_neg hid] at r
        exact ⟨_, _, _, by simp only [codeL, e, if_neg hid], r⟩
    | normal => exact ⟨_, _, _, by simp only [codeL, e], r⟩
    | goto l => exact ⟨_, _, _, by simp only [codeL, e], r⟩
    | ret => exact ⟨_, _, _, by simp only [codeL, e], r⟩
theorem wpk_exit {id : Nat} {keep : List Nat} : WPk C (.exit id keep) fr h Φ ↔ Φ (.exit id) (keepF keep fr) h := ⟨fun ⟨_, _, _, e, r⟩ => by cases e; exact r, fun r => ⟨_, _, _, rfl, r⟩⟩
theorem wpk_ret {keep : List Nat} : WPk C (.ret keep) fr h Φ ↔ Φ .ret (keepF keep fr) h := ⟨fun ⟨_, _, _, e, r⟩ => by cases e; exact r, fun r => ⟨_, _, _, rfl, r⟩⟩
theorem wpk_loop {keep : List Nat} {b : EC} : WPk C (.loop keep b) fr h Φ ↔ WPl C b keep (keepF keep fr) h Φ := Iff.rfl
theorem wpk_ops {l : List EG} {keep : List Nat} : WPk C (.ops l keep) fr h Φ ↔ WPo C l fr h (fun fr' h' => Φ .normal (keepF keep fr') h') := by
  constructor
  · rintro ⟨x, fr', h', e, r⟩
    simp only [codeL] at e
    obtain ⟨⟨f1, h1⟩, e1, e2⟩ := Option.map_eq_some_iff.1 e
    simp only [Prod.mk.injEq] at e2
    obtain ⟨rfl, rfl, rfl⟩ := e2
    exact ⟨f1, h1, e1, r⟩
  · rintro ⟨fr', h', e, r⟩
    exact ⟨_, _, _, by simp only [codeL, e, Option.map_some], r⟩
theorem wpo_nil {Φ : Fr → LH → Prop} : WPo C [] fr h Φ ↔ Φ fr h := ⟨fun ⟨_, _, e, r⟩ => by cases e; exact r, fun r => ⟨_, _, rfl, r⟩⟩
theorem wpo_do {g : EG} {l : List EG} {Φ : Fr → LH → Prop} (hw : wantE fr g.guard = some true) : WPo C (g :: l) fr h Φ ↔ WPs C g.op fr h (fun v h' => WPo C l (fput fr g.dst (some v)) h' Φ) := by
  unfold WPo WPs; simp only [opsE, hw]
  constructor
  · rintro ⟨fr', h', e, r⟩
    split at e
    · rename_i v h1 e1
      exact ⟨v, h1, e1, fr', h', e, r⟩
    · cases e
  · rintro ⟨v, h1, e1, fr', h', e, r⟩
    exact ⟨fr', h', by rw [e1]; exact e, r⟩
theorem wpo_not {g : EG} {l : List EG} {Φ : Fr → LH → Prop} (hw : wantE fr g.guard = some false) : WPo C (g :: l) fr h Φ ↔ WPo C l (fput fr g.dst (some (.tup []))) h Φ := by
  unfold WPo; simp only [opsE, hw]
theorem wps_call {f : Nat} {l : List OD} {args : List FV} {Φ : FV → LH → Prop} (ha : odL fr l = some args) : WPs C (.call f l) fr h Φ ↔ WPc C f args h Φ := by
  unfold WPs WPc; simp [stepE, isCall, calleeE, ha]
theorem wps_op {o : EO} {v : FV} {h' : LH} {Φ : FV → LH → Prop} (hc : isCall o = false) (he : opE fr h o = some (v, h')) : WPs C o fr h Φ ↔ Φ v h' := by
  unfold WPs; simp only [stepE, hc, Bool.false_eq_true, if_false, he]
  exact ⟨fun ⟨_, _, e, r⟩ => by cases e; exact r, fun r => ⟨_, _, rfl, r⟩⟩
theorem WPc_eq {f : Nat} {args : List FV} {v : FV} {h' : LH} {Φ : FV → LH → Prop} (he : callX C f args h = some (v, h')) : WPc C f args h Φ ↔ Φ v h' := by
  unfold WPc; rw [he]
  exact ⟨fun ⟨_, _, e, r⟩ => by cases e; exact r, fun r => ⟨_, _, rfl, r⟩⟩
theorem callX_wp {f : Nat} {args : List FV} {v : FV} {h' : LH} (w : WPc C f args h (fun v' h'' => v' = v ∧ h'' = h')) : callX C f args h = some (v, h') := by
  obtain ⟨v1, h1, e, rfl, rfl⟩ := w
  exact e

/-- A loop, by what holds at its head, and what grows less. -/
theorem WPl.inv {b : EC} {keep : List Nat} (I : Nat → Fr → LH → Prop) (hs : ∀ n fr h, I n fr h → keepF keep fr = fr ∧ WPk C b fr h (KL (fun fr' h' => ∃ m, m < n ∧ I m fr' h') keep Φ)) : ∀ n fr h, I n fr h → WPl C b keep fr h Φ := by
  intro n
  induction n using Nat.strongRecOn with
  | _ n ih =>
    intro fr h hi
    obtain ⟨hk, x, fr', h', e, r⟩ := hs n fr h hi
    cases x with
    | normal =>
      obtain ⟨m, hm, im⟩ := r
      obtain ⟨x2, fr2, h2, e2, r2⟩ := ih m hm _ _ im
      exact ⟨x2, fr2, h2, loopX_step hk e e2, r2⟩
    | exit id => exact ⟨_, _, _, loopX_done hk e (by simp), r⟩
    | goto l => exact ⟨_, _, _, loopX_done hk e (by simp), r⟩
    | ret => exact ⟨_, _, _, loopX_done hk e (by simp), r⟩
end

/-- The same, what holds out of simp's sight. -/
theorem WPl.inv2 {C : Nat → Option EF} {Φ : Ex → Fr → LH → Prop} {b : EC} {keep : List Nat} (I₀ : Nat → Fr → LH → Prop) (hs : ∀ I : Nat → Fr → LH → Prop, (∀ m fr h', I₀ m fr h' → I m fr h') → ∀ n fr h, I₀ n fr h → keepF keep fr = fr ∧ WPk C b fr h (KL (fun fr' h' => ∃ m, m < n ∧ I m fr' h') keep Φ)) :
    ∀ n fr h, I₀ n fr h → WPl C b keep fr h Φ := WPl.inv I₀ (hs I₀ fun _ _ _ x => x)
theorem WPc.post {C : Nat → Option EF} {f : Nat} {args : List FV} {h : LH} {Φ : FV → LH → Prop} (hs : ∀ Ψ : FV → LH → Prop, (∀ v h', Φ v h' → Ψ v h') → WPc C f args h Ψ) : WPc C f args h Φ := hs Φ fun _ _ x => x
theorem WPl.post {C : Nat → Option EF} {b : EC} {keep : List Nat} {fr : Fr} {h : LH} {Ψ : Ex → Fr → LH → Prop} (Φ₀ : Ex → Fr → LH → Prop) (hs : ∀ Φ : Ex → Fr → LH → Prop, (∀ x fr h, Φ₀ x fr h → Φ x fr h) → WPl C b keep fr h Φ) (hm : ∀ x fr' h', Φ₀ x fr' h' → Ψ x fr' h') : WPl C b keep fr h Ψ :=
  (hs Φ₀ fun _ _ _ x => x).mono hm

/-! ### Scopes -/
/-- Code comes to something from a label on. -/
def WPa (C : Nat → Option EF) (c : EC) (l : Nat) (fr : Fr) (h : LH) (Φ : Ex → Fr → LH → Prop) : Prop := ∃ x fr' h', codeAtL (callX C) c l fr h = some (x, fr', h') ∧ Φ x fr' h'
/-- A goto within a scope. -/
def KS (b : EC) (R : Nat → Fr → LH → Prop) (Φ : Ex → Fr → LH → Prop) : Ex → Fr → LH → Prop := fun x fr h => match x with
  | .goto l => if hasL b l then R l fr h else Φ (.goto l) fr h
  | x => Φ x fr h
section
variable {C : Nat → Option EF} {Φ : Ex → Fr → LH → Prop} {fr : Fr} {h : LH}
theorem wpk_goto {l : Nat} {keep : List Nat} : WPk C (.goto l keep) fr h Φ ↔ Φ (.goto l) (keepF keep fr) h := ⟨fun ⟨_, _, _, e, r⟩ => by simp only [codeL] at e; cases e; exact r, fun r => ⟨_, _, _, by simp only [codeL], r⟩⟩
theorem wpk_label {l : Nat} : WPk C (.label l) fr h Φ ↔ Φ .normal fr h := ⟨fun ⟨_, _, _, e, r⟩ => by simp only [codeL] at e; cases e; exact r, fun r => ⟨_, _, _, by simp only [codeL], r⟩⟩
theorem K_goto {b : EC} {l : Nat} : K C b Φ (.goto l) fr h ↔ Φ (.goto l) fr h := Iff.rfl
theorem KB_goto {id l : Nat} : KB id Φ (.goto l) fr h ↔ Φ (.goto l) fr h := Iff.rfl
theorem KL_goto {R : Fr → LH → Prop} {keep : List Nat} {l : Nat} : KL R keep Φ (.goto l) fr h ↔ Φ (.goto l) fr h := Iff.rfl
theorem KS_goto {b : EC} {R : Nat → Fr → LH → Prop} {l : Nat} : KS b R Φ (.goto l) fr h ↔ if hasL b l then R l fr h else Φ (.goto l) fr h := Iff.rfl
theorem KS_ret {b : EC} {R : Nat → Fr → LH → Prop} : KS b R Φ .ret fr h ↔ Φ .ret fr h := Iff.rfl
theorem KS_normal {b : EC} {R : Nat → Fr → LH → Prop} : KS b R Φ .normal fr h ↔ Φ .normal fr h := Iff.rfl
theorem KS_exit {b : EC} {R : Nat → Fr → LH → Prop} {id : Nat} : KS b R Φ (.exit id) fr h ↔ Φ (.exit id) fr h := Iff.rfl
theorem wpa_label {l : Nat} : WPa C (.label l) l fr h Φ ↔ Φ .normal fr h := ⟨fun ⟨_, _, _, e, r⟩ => by simp [codeAtL] at e; obtain ⟨rfl, rfl, rfl⟩ := e; exact r, fun r => ⟨.normal, fr, h, by simp [codeAtL], r⟩⟩
theorem wpa_here {a b : EC} {l : Nat} (hl : hasL a l = true) : WPa C (.seq a b) l fr h Φ ↔ WPa C a l fr h (K C b Φ) := by
  constructor
  · rintro ⟨x, fr', h', e, r⟩
    simp only [codeAtL, hl, if_true] at e
    split at e
    · rename_i fr1 h1 e1
      exact ⟨_, _, _, e1, x, fr', h', e, r⟩
    · rename_i hne
      refine ⟨_, _, _, e, ?_⟩
      cases x with
      | normal => exact absurd e (hne _ _)
      | exit id => exact r
      | goto l => exact r
      | ret => exact r
  · rintro ⟨x, fr', h', e, r⟩
    cases x with
    | normal =>
      obtain ⟨x2, fr2, h2, e2, r2⟩ := r
      exact ⟨x2, fr2, h2, by simp only [codeAtL, hl, if_true, e]; exact e2, r2⟩
    | exit id => exact ⟨_, _, _, by simp only [codeAtL, hl, if_true, e], r⟩
    | goto l => exact ⟨_, _, _, by simp only [codeAtL, hl, if_true, e], r⟩
    | ret => exact ⟨_, _, _, by simp only [codeAtL, hl, if_true, e], r⟩
theorem wpa_past {a b : EC} {l : Nat} (hl : hasL a l = false) : WPa C (.seq a b) l fr h Φ ↔ WPa C b l fr h Φ := by
  unfold WPa; simp only [codeAtL, hl, Bool.false_eq_true, if_false]
theorem scope_run {b : EC} (I : Nat → Nat → Fr → LH → Prop) (hs : ∀ n l fr h, I n l fr h → WPa C b l fr h (KS b (fun l' fr' h' => ∃ m, m < n ∧ I m l' fr' h') Φ)) :
    ∀ (n : Nat) (x : Ex) (fr : Fr) (h : LH), KS b (fun l fr h => ∃ m, m < n ∧ I m l fr h) Φ x fr h → ∃ k x' fr' h', scopeN (codeAtL (callX C) b) (hasL b) k (some (x, fr, h)) = some (x', fr', h') ∧ Φ x' fr' h' := by
  intro n
  induction n using Nat.strongRecOn with
  | _ n ih =>
    intro x fr h hx
    cases x with
    | goto l =>
      rw [KS_goto] at hx
      split at hx
      · rename_i hl
        obtain ⟨m, hm, hi⟩ := hx
        obtain ⟨x1, fr1, h1, e1, r1⟩ := hs m l fr h hi
        obtain ⟨k, x2, fr2, h2, e2, r2⟩ := ih m hm x1 fr1 h1 r1
        refine ⟨k + 1, x2, fr2, h2, ?_, r2⟩
        unfold scopeN
        simp only [hl, if_true, e1]; exact e2
      · rename_i hl
        refine ⟨0, _, _, _, ?_, hx⟩
        unfold scopeN
        simp only [hl, Bool.false_eq_true, if_false]
    | normal => exact ⟨0, _, _, _, by unfold scopeN; rfl, hx⟩
    | exit id => exact ⟨0, _, _, _, by unfold scopeN; rfl, hx⟩
    | ret => exact ⟨0, _, _, _, by unfold scopeN; rfl, hx⟩
/-- A scope, by what holds at its labels, and what grows less. -/
theorem wpk_scope {b : EC} (I : Nat → Nat → Fr → LH → Prop) (n : Nat) (h0 : WPk C b fr h (KS b (fun l fr h => ∃ m, m < n ∧ I m l fr h) Φ)) (hs : ∀ n l fr h, I n l fr h → WPa C b l fr h (KS b (fun l' fr' h' => ∃ m, m < n ∧ I m l' fr' h') Φ)) : WPk C (.scope b) fr h Φ := by
  obtain ⟨x, fr1, h1, e1, r1⟩ := h0
  obtain ⟨k, x2, fr2, h2, e2, r2⟩ := scope_run I hs n x fr1 h1 r1
  refine ⟨x2, fr2, h2, ?_, r2⟩
  simp only [codeL, e1]
  refine lim_of (fun n r he => scopeN_mono (fun _ _ _ _ h => h) _ n (n + 1) (Nat.le_succ n) (x, fr1, h1) r he) (n := k) e2
end

/-! ### Regions whose order is open -/
theorem fget_keep_mem {keep : List Nat} {fr : Fr} {n : Nat} (hn : n ∈ keep) : fget (keepF keep fr) n = fget fr n := fget_keepF hn
section
variable {fr : Fr} {keep : List Nat}
theorem odE_keep {x : OD} (hs : ∀ n ∈ odT x, n ∈ keep) : odE (keepF keep fr) x = odE fr x := by
  cases x with
  | t n => exact fget_keepF (hs n (by simp [odT]))
  | c v => rfl
theorem odS_keep {x : OD} (hs : ∀ n ∈ odT x, n ∈ keep) : odS (keepF keep fr) x = odS fr x := by
  unfold odS; rw [odE_keep hs]
theorem odL_keep : ∀ {l : List OD}, (∀ n ∈ odsT l, n ∈ keep) → odL (keepF keep fr) l = odL fr l
  | [], _ => rfl
  | x :: r, hs => by
    simp only [odL]
    rw [odE_keep (fun n hn => hs n (by simp [odsT, hn])), odL_keep (fun n hn => hs n (by simp [odsT, hn]))]
theorem odSL_keep : ∀ {l : List OD}, (∀ n ∈ odsT l, n ∈ keep) → odSL (keepF keep fr) l = odSL fr l
  | [], _ => rfl
  | x :: r, hs => by
    simp only [odSL]
    rw [odS_keep (fun n hn => hs n (by simp [odsT, hn])), odSL_keep (fun n hn => hs n (by simp [odsT, hn]))]
theorem fillE_keep : ∀ {l : List (Nat × Nat × OD)} {cs : List SV}, (∀ n ∈ partsT l, n ∈ keep) → fillE (keepF keep fr) cs l = fillE fr cs l
  | [], _, _ => rfl
  | (o, n, x) :: r, cs, hs => by
    simp only [fillE]
    rw [odE_keep (fun n hn => hs n (by simp [partsT, hn]))]
    split
    · split
      · split
        · exact fillE_keep (fun n hn => hs n (by simp [partsT, hn]))
        · rfl
      · rfl
    · rfl
theorem bound_keep {d : Nat} {x : Option OD} (hs : ∀ n ∈ optT x, n ∈ keep) : bound (keepF keep fr) d x = bound fr d x := by
  cases x with
  | none => rfl
  | some x => unfold bound; simp only; rw [odS_keep hs]
theorem step_keep {call : CallE} {h : LH} {o : EO} (hs : ∀ n ∈ slotsE o, n ∈ keep) : stepE call (keepF keep fr) h o = stepE call fr h o := by
  have e1 : opE (keepF keep fr) h o = opE fr h o := by
    cases o <;> simp only [slotsE, List.mem_append] at hs <;> simp only [opE] <;> first
      | rfl
      | (rw [odS_keep (fun n hn => hs n (by simp [hn]))]; done)
      | (rw [odE_keep (fun n hn => hs n (by simp [hn]))]; done)
      | (rw [odS_keep (fun n hn => hs n (by simp [hn])), odS_keep (fun n hn => hs n (by simp [hn]))]; done)
      | (rw [odS_keep (fun n hn => hs n (by simp [hn])), odE_keep (fun n hn => hs n (by simp [hn]))]; done)
      | (rw [odE_keep (fun n hn => hs n (by simp [hn])), odE_keep (fun n hn => hs n (by simp [hn]))]; done)
      | (rw [odS_keep (fun n hn => hs n (by simp [hn])), odE_keep (fun n hn => hs n (by simp [hn])), odE_keep (fun n hn => hs n (by simp [hn]))]; done)
      | (rw [fillE_keep hs]; done)
      | (rw [odS_keep (fun n hn => hs n (by simp [hn])), odS_keep (fun n hn => hs n (by simp [hn])), odS_keep (fun n hn => hs n (by simp [hn]))]; done)
      | (rw [odL_keep (fun n hn => hs n (by simp [hn])), odL_keep (fun n hn => hs n (by simp [hn]))]; done)
      | (rw [odS_keep (fun n hn => hs n (by simp [hn])), odSL_keep (fun n hn => hs n (by simp [hn]))]; done)
      | (simp only [odS_keep (fr := fr) (keep := keep) (fun n hn => hs n (.inl (.inl hn))), bound_keep (fr := fr) (keep := keep) (fun n hn => hs n (.inl (.inr hn))), bound_keep (fr := fr) (keep := keep) (fun n hn => hs n (.inr hn))]; done)
  have e2 : calleeE (keepF keep fr) h o = calleeE fr h o := by
    cases o <;> simp only [slotsE, List.mem_append] at hs <;> simp only [calleeE] <;> first
      | rfl
      | (rw [odL_keep hs]; done)
      | (rw [odS_keep (fun n hn => hs n (by simp [hn])), odL_keep (fun n hn => hs n (by simp [hn]))]; done)
  unfold stepE
  rw [e1, e2]
theorem want_keep {g : EG} : wantE (keepF (slotsG g) fr) g.guard = wantE fr g.guard := by
  cases hg : g.guard with
  | none => rfl
  | some p =>
    obtain ⟨s, b⟩ := p
    unfold wantE
    simp only
    rw [fget_keepF (by simp [slotsG, hg])]
theorem step_slots {call : CallE} {h : LH} {g : EG} : stepE call (keepF (slotsG g) fr) h g.op = stepE call fr h g.op := by
  refine step_keep fun n hn => ?_
  unfold slotsG
  split
  · exact hn
  · exact List.mem_cons_of_mem _ hn
end
theorem trace_ops {call : CallE} : ∀ (l : List EG) (fr : Fr) (h : LH), (traceE call l fr h).map (·.2) = opsE call l fr h
  | [], fr, h => rfl
  | g :: l, fr, h => by
    simp only [traceE, opsE]
    rw [want_keep, step_slots]
    split
    · split
      · rw [Option.map_map, ← trace_ops l]; rfl
      · rfl
    · rw [Option.map_map, ← trace_ops l]; rfl
    · rfl
theorem drawE0 {call : CallE} {l : List EG} {fr : Fr} {h : LH} : drawE call l [] fr h = opsE call l fr h := by
  rw [← trace_ops]
  unfold drawE
  cases traceE call l fr h with
  | none => rfl
  | some x =>
    obtain ⟨tr, fr', h'⟩ := x
    simp only
    rw [if_pos (show okPairs call tr [] from trivial)]; rfl

/-! ### The rules, as rewritings -/
def KO (keep : List Nat) (Φ : Ex → Fr → LH → Prop) : Fr → LH → Prop := fun fr h => Φ .normal (keepF keep fr) h
def KP (C : Nat → Option EF) (l : List EG) (fr : Fr) (d : Option Nat) (Φ : Fr → LH → Prop) : FV → LH → Prop := fun v h => WPo C l (fput fr d (some v)) h Φ
def mt (r : Option (FV × LH)) (Φ : FV → LH → Prop) : Prop := match r with
  | some (v, h) => Φ v h
  | none => False
def mtk (r : Option (FV × LH)) (h : LH) (Φ : FV → LH → Prop) : Prop := match r with
  | some (v, _) => Φ v h
  | none => False
section
variable {C : Nat → Option EF} {Φ : Ex → Fr → LH → Prop} {fr : Fr} {h : LH}
theorem mt_some {v : FV} {Φ : FV → LH → Prop} : mt (some (v, h)) Φ ↔ Φ v h := Iff.rfl
theorem mtk_some {v : FV} {h' : LH} {Φ : FV → LH → Prop} : mtk (some (v, h')) h Φ ↔ Φ v h := Iff.rfl
theorem KO_eq {keep : List Nat} : KO keep Φ fr h ↔ Φ .normal (keepF keep fr) h := Iff.rfl
theorem KP_eq {l : List EG} {d : Option Nat} {Φ : Fr → LH → Prop} {v : FV} : KP C l fr d Φ v h ↔ WPo C l (fput fr d (some v)) h Φ := Iff.rfl
theorem k_ops {l : List EG} {keep : List Nat} : WPk C (.ops l keep) fr h Φ ↔ WPo C l fr h (KO keep Φ) := wpk_ops
theorem k_cons {g : EG} {l : List EG} {Φ : Fr → LH → Prop} : WPo C (g :: l) fr h Φ ↔ match wantE fr g.guard with
    | some true => WPs C g.op fr h (KP C l fr g.dst Φ)
    | some false => WPo C l (fput fr g.dst (some (.tup []))) h Φ
    | none => False := by
  split
  · rename_i hw; exact wpo_do hw
  · rename_i hw; exact wpo_not hw
  · rename_i hw
    refine ⟨fun w => ?_, False.elim⟩
    obtain ⟨fr', h', e, _⟩ := w
    simp only [opsE, hw] at e
    cases e
theorem k_step {o : EO} {Φ : FV → LH → Prop} : WPs C o fr h Φ ↔ mt (stepE (callX C) fr h o) Φ := by
  unfold WPs mt
  constructor
  · rintro ⟨v, h', e, r⟩
    rw [e]; exact r
  · intro w
    split at w
    · rename_i v h' e; exact ⟨v, h', e, w⟩
    · exact w.elim
theorem k_cond {c : OD} {a b : EC} : WPk C (.cond c a b) fr h Φ ↔ match odS fr c with
    | some (.bool t) => if t then WPk C a fr h Φ else WPk C b fr h Φ
    | _ => False := by
  split
  · rename_i t ht
    rw [wpk_cond ht]
  · rename_i hne
    refine ⟨fun w => ?_, False.elim⟩
    obtain ⟨x, fr', h', e, _⟩ := w
    unfold codeL at e
    split at e
    · rename_i t ht; exact hne t ht
    · cases e
theorem k_draw0 {l : List EG} {keep : List Nat} : WPk C (.draw l [] keep) fr h Φ ↔ WPo C l fr h (KO keep Φ) := by
  rw [← k_ops]
  unfold WPk
  simp only [codeL]
  rw [drawE0]
/-- A region's run, with what each operation met. -/
def WT (C : Nat → Option EF) : List EG → Fr → LH → List (Option TE) → (List (Option TE) → Fr → LH → Prop) → Prop
  | [], fr, h, tr, Φ => Φ tr fr h
  | g :: l, fr, h, tr, Φ =>
    match wantE fr g.guard with
    | some true => mt (stepE (callX C) fr h g.op) (fun v h' => WT C l (fput fr g.dst (some v)) h' (tr ++ [some ⟨keepF (slotsG g) fr, h, g.op, v, h'⟩]) Φ)
    | some false => WT C l (fput fr g.dst (some (.tup []))) h (tr ++ [none]) Φ
    | none => False
def KT (C : Nat → Option EF) (l : List EG) (fr : Fr) (h : LH) (g : EG) (tr : List (Option TE)) (Φ : List (Option TE) → Fr → LH → Prop) : FV → LH → Prop := fun v h' => WT C l (fput fr g.dst (some v)) h' (tr ++ [some ⟨keepF (slotsG g) fr, h, g.op, v, h'⟩]) Φ
def KD (C : Nat → Option EF) (ps : List (Nat × Nat)) (keep : List Nat) (Φ : Ex → Fr → LH → Prop) : List (Option TE) → Fr → LH → Prop := fun tr fr h => okPairs (callX C) tr ps ∧ Φ .normal (keepF keep fr) h
theorem t_nil {tr : List (Option TE)} {Φ : List (Option TE) → Fr → LH → Prop} : WT C [] fr h tr Φ ↔ Φ tr fr h := Iff.rfl
theorem t_cons {g : EG} {l : List EG} {tr : List (Option TE)} {Φ : List (Option TE) → Fr → LH → Prop} : WT C (g :: l) fr h tr Φ ↔ match wantE fr g.guard with
    | some true => mt (stepE (callX C) fr h g.op) (KT C l fr h g tr Φ)
    | some false => WT C l (fput fr g.dst (some (.tup []))) h (tr ++ [none]) Φ
    | none => False := Iff.rfl
theorem KT_eq {l : List EG} {g : EG} {h' : LH} {tr : List (Option TE)} {Φ : List (Option TE) → Fr → LH → Prop} {v : FV} : KT C l fr h g tr Φ v h' ↔ WT C l (fput fr g.dst (some v)) h' (tr ++ [some ⟨keepF (slotsG g) fr, h, g.op, v, h'⟩]) Φ := Iff.rfl
theorem KD_eq {ps : List (Nat × Nat)} {keep : List Nat} {tr : List (Option TE)} : KD C ps keep Φ tr fr h ↔ okPairs (callX C) tr ps ∧ Φ .normal (keepF keep fr) h := Iff.rfl
theorem WT.trace : ∀ {l : List EG} {fr : Fr} {h : LH} {tr : List (Option TE)} {Φ : List (Option TE) → Fr → LH → Prop}, WT C l fr h tr Φ → ∃ tr1 fr' h', traceE (callX C) l fr h = some (tr1, fr', h') ∧ Φ (tr ++ tr1) fr' h'
  | [], fr, h, tr, Φ, w => ⟨[], fr, h, rfl, by rw [List.append_nil]; exact w⟩
  | g :: l, fr, h, tr, Φ, w => by
    unfold WT at w
    split at w
    · rename_i hw
      unfold mt at w
      split at w
      · rename_i v h1 e1
        obtain ⟨tr1, fr', h', e2, e4⟩ := WT.trace w
        refine ⟨some ⟨keepF (slotsG g) fr, h, g.op, v, h1⟩ :: tr1, fr', h', ?_, by rw [List.append_assoc] at e4; exact e4⟩
        simp only [traceE]
        rw [want_keep, hw]
        simp only
        rw [step_slots, e1]
        simp only [e2, Option.map_some]
      · exact w.elim
    · rename_i hw
      obtain ⟨tr1, fr', h', e2, e4⟩ := WT.trace w
      refine ⟨none :: tr1, fr', h', ?_, by rw [List.append_assoc] at e4; exact e4⟩
      simp only [traceE]
      rw [want_keep, hw]
      simp only [e2, Option.map_some]
    · exact w.elim
theorem k_draw {l : List EG} {ps : List (Nat × Nat)} {keep : List Nat} (w : WT C l fr h [] (KD C ps keep Φ)) : WPk C (.draw l ps keep) fr h Φ := by
  obtain ⟨tr1, fr', h', e2, e4, e5⟩ := w.trace
  refine ⟨_, _, _, ?_, e5⟩
  rw [List.nil_append] at e4
  simp only [codeL, drawE, e2]
  rw [if_pos e4]; rfl
/-- A call whose answer is known by a law. -/
theorem WPc.go {f : Nat} {args : List FV} {Ψ G : FV → LH → Prop} (w : WPc C f args h Ψ) (hm : ∀ v h', Ψ v h' → G v h') : mt (callX C f args h) G := by
  obtain ⟨v, h', e, r⟩ := w
  rw [e]; exact hm v h' r
theorem KR_i {res : List ER} {Φ : FV → LH → Prop} (w : mtk (packL (ressE fr h res) h) h Φ) : KR res Φ .ret fr h := by
  unfold mtk at w
  split at w
  · rename_i v h' e1
    refine ⟨.inr rfl, v, ?_, w⟩
    unfold packL at e1 ⊢
    split at e1
    · split at e1
      · simp only [Option.some.injEq, Prod.mk.injEq] at e1
        rename_i hf
        rw [if_pos hf, e1.1]
      · cases e1
    · cases e1
  · exact w.elim
theorem k_ret {res : List ER} {Φ : FV → LH → Prop} : KR res Φ .ret fr h ↔ mtk (packL (ressE fr h res) h) h Φ := by
  refine ⟨?_, KR_i⟩
  rintro ⟨_, v, e1, r⟩
  rw [e1]; exact r
theorem k_normal {res : List ER} {Φ : FV → LH → Prop} : KR res Φ .normal fr h ↔ mtk (packL (ressE fr h res) h) h Φ := by
  rw [← k_ret]
  simp [KR]
end
end Go.Proofs.YtiljgimcipdadaaGreatDoor.Ev
