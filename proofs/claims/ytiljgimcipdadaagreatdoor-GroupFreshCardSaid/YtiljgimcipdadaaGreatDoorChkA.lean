/- What may be told a group: the parts, on the small machine. -/
import Derived.Test.YtiljgimcipdadaaGreatDoorCodeK
import Derived.Test.YtiljgimcipdadaaGreatDoorEvMay2
set_option linter.unusedSimpArgs false
set_option linter.unusedVariables false
namespace Go.Proofs.YtiljgimcipdadaaGreatDoor.Ev.CK
open Go

/-- A command's fields: its kind, three names, eight numbers. -/
structure Cm where
  k : Int
  a : ByteArray
  b : ByteArray
  j : ByteArray
  c : Int
  d : Int
  y : Int
  z : Int
  p : Int
  n : Int
  r : Int
  x : Int
  deriving DecidableEq

def encC (m : Cm) : List SV := [.int .i64 m.k, .str m.a, .str m.b, .str m.j, .int .i64 m.c, .int .i64 m.d, .int .i64 m.y, .int .i64 m.z, .int .i64 m.p, .int .i64 m.n, .int .i64 m.r, .int .i64 m.x]

def fieldsL (k : Int) : List UInt8 :=
  if k = 1 then [74, 89, 82, 80] else if k = 2 then [73, 74, 82, 89, 80, 70] else if k = 3 then [73, 65] else if k = 4 then [73, 65] else if k = 5 then [73, 67, 89, 65] else if k = 6 then [73, 67, 89, 68, 90, 65]
  else if k = 7 then [73, 82] else if k = 8 then [73, 82, 89] else if k = 9 then [73, 80, 65] else if k = 10 then [73, 75, 65] else if k = 11 then [73] else if k = 12 then [73] else [63]
def fieldsB (k : Int) : ByteArray := ⟨(fieldsL k).toArray⟩

theorem fields_ok (k : Int) (h : LH) : callX C 72 [.s (.int .i64 k)] h = some (.s (.str (fieldsB k)), h) := by
  apply callX_wp
  refine WPc.intro (e := e72) rfl (Nat.le_of_ble_eq_true rfl) ?_
  unfold fieldsB fieldsL
  by_cases c1 : k = 1
  · subst c1; simp
  by_cases c2 : k = 2
  · subst c2; simp
  by_cases c3 : k = 3
  · subst c3; simp
  by_cases c4 : k = 4
  · subst c4; simp
  by_cases c5 : k = 5
  · subst c5; simp
  by_cases c6 : k = 6
  · subst c6; simp
  by_cases c7 : k = 7
  · subst c7; simp
  by_cases c8 : k = 8
  · subst c8; simp
  by_cases c9 : k = 9
  · subst c9; simp
  by_cases c10 : k = 10
  · subst c10; simp
  by_cases c11 : k = 11
  · subst c11; simp
  by_cases c12 : k = 12
  · subst c12; simp
  have e1 : (k == 1) = false := by simpa using c1
  have e2 : (k == 2) = false := by simpa using c2
  have e3 : (k == 3) = false := by simpa using c3
  have e4 : (k == 4) = false := by simpa using c4
  have e5 : (k == 5) = false := by simpa using c5
  have e6 : (k == 6) = false := by simpa using c6
  have e7 : (k == 7) = false := by simpa using c7
  have e8 : (k == 8) = false := by simpa using c8
  have e9 : (k == 9) = false := by simpa using c9
  have e10 : (k == 10) = false := by simpa using c10
  have e11 : (k == 11) = false := by simpa using c11
  have e12 : (k == 12) = false := by simpa using c12
  simp [c1, c2, c3, c4, c5, c6, c7, c8, c9, c10, c11, c12, e1, e2, e3, e4, e5, e6, e7, e8, e9, e10, e11, e12]

/-- Has the kind this field? -/
def hasF (k : Int) (c : UInt8) : Bool := (fieldsL k).contains c
theorem indexByte_has (l : List UInt8) (c : UInt8) : decide (0 ≤ Lib.indexByte l c) = l.contains c := by
  induction l with
  | nil => rfl
  | cons b l ih =>
    have hge : -1 ≤ Lib.indexByte l c := by
      clear ih
      induction l with
      | nil => exact Int.le_refl _
      | cons b l ih =>
        unfold Lib.indexByte
        split
        · omega
        · split
          · omega
          · rename_i h
            have : Lib.indexByte l c ≠ -1 := by simpa using h
            omega
    unfold Lib.indexByte
    rw [List.contains_cons]
    by_cases hb : b = c
    · subst hb; simp
    · have h1 : (b == c) = false := by simpa using hb
      have h2 : (c == b) = false := by simpa using fun e => hb e.symm
      rw [h1, h2, Bool.false_or, ← ih]
      simp only [Bool.false_eq_true, if_false]
      split
      · rename_i h
        have : Lib.indexByte l c = -1 := by simpa using h
        rw [this]
      · rename_i h
        have : Lib.indexByte l c ≠ -1 := by simpa using h
        by_cases h0 : 0 ≤ Lib.indexByte l c
        · rw [decide_eq_true h0, decide_eq_true (by omega)]
        · omega
theorem has_call (k : Int) (c : UInt8) (h : LH) : callX C 74 [.s (.str (fieldsB k)), .s (.str ⟨#[c]⟩)] h = some (.s (.bool (hasF k c)), h) := by
  refine ext_call1 (g := gHas) rfl rfl ?_ (Nat.le_refl _) rfl
  have := indexByte_has (fieldsL k) c
  exact congrArg (fun b => some ([FV.s (.bool b)], h)) this

/-- The letters that a name has. -/
def signsL : List UInt8 := [97, 98, 99, 100, 101, 102, 103, 104, 105, 106, 107, 108, 109, 110, 111, 112, 113, 114, 115, 116, 117, 118, 119, 120, 121, 122, 48, 49, 50, 51, 52, 53, 54, 55, 56, 57]
theorem trim_call (s : ByteArray) (hs : s.size ≤ 8) (h : LH) : callX C 104 [.s (.str s), .s (.str ⟨#[97, 98, 99, 100, 101, 102, 103, 104, 105, 106, 107, 108, 109, 110, 111, 112, 113, 114, 115, 116, 117, 118, 119, 120, 121, 122, 48, 49, 50, 51, 52, 53, 54, 55, 56, 57]⟩)] h = some (.s (.str ⟨(Lib.trimS s.data.toList signsL).toArray⟩), h) := by
  refine ext_call1 (g := gTrim) rfl rfl ?_ (Nat.le_refl _) rfl
  simp only [gTrim]
  rw [if_pos ⟨by omega, by decide, by decide⟩]; rfl

/-- A name: one to eight letters or digits. -/
def nameF (s : ByteArray) : Bool := decide (1 ≤ s.size ∧ s.size ≤ 8) && s.data.toList.all fun b => signsL.contains b
theorem trim_nil (l cs : List UInt8) : Lib.trimS l cs = [] ↔ l.all (fun b => cs.contains b) = true := by
  have key : ∀ (l : List UInt8), l.dropWhile (cs.contains ·) = [] ↔ l.all (fun b => cs.contains b) = true := by
    intro l
    induction l with
    | nil => simp
    | cons b l ih =>
      rw [List.dropWhile_cons, List.all_cons, Bool.and_eq_true]
      cases hb : cs.contains b with
      | true => simp only [if_true, true_and]; exact ih
      | false => simp
  have key2 : ∀ (l : List UInt8), l.reverse.all (fun b => cs.contains b) = l.all (fun b => cs.contains b) := fun l => by simp
  unfold Lib.trimS Lib.trimLeftS Lib.trimRightS
  rw [key, key2]
  constructor
  · intro h
    by_cases e : l.reverse.dropWhile (cs.contains ·) = []
    · rw [key, key2] at e; exact e
    · exfalso
      cases hd : l.reverse.dropWhile (cs.contains ·) with
      | nil => exact e hd
      | cons b r =>
        rw [hd, List.all_cons, Bool.and_eq_true] at h
        have := List.head_dropWhile_not (cs.contains ·) (l := l.reverse) e
        simp only [hd, List.head_cons] at this
        rw [this] at h; cases h.1
  · intro h
    have : l.reverse.dropWhile (cs.contains ·) = [] := by rw [key, key2]; exact h
    rw [this]; rfl
set_option maxRecDepth 20000 in
theorem name_ok (s : ByteArray) (h : LH) : callX C 75 [.s (.str s)] h = some (.s (.bool (nameF s)), h) := by
  apply callX_wp
  refine WPc.intro (e := e75) rfl (Nat.le_of_ble_eq_true rfl) ?_
  unfold nameF
  by_cases h0 : s.size = 0
  · obtain rfl : s = ⟨#[]⟩ := by
      obtain ⟨d⟩ := s
      have : d = #[] := Array.eq_empty_of_size_eq_zero h0
      rw [this]
    simp
    exact fun h => absurd h (by decide)
  · have e1 : s.toList.isEmpty = false := by
      cases hl : s.toList with
      | nil =>
        exfalso
        rw [ByteArray.toList_eq] at hl
        have : s.data.toList.length = 0 := by rw [hl]; rfl
        rw [Array.length_toList] at this
        exact h0 this
      | cons a b => rfl
    have e1' : ¬ s.toList = [] := by simpa using e1
    by_cases h8 : s.size ≤ 8
    · have h8' : (s.size : Int) ≤ 8 := by omega
      have ht := fun h => trim_call s h8 h
      have hn := trim_nil s.data.toList signsL
      have hd : decide (1 ≤ s.size ∧ s.size ≤ 8) = true := decide_eq_true ⟨by omega, h8⟩
      rw [hd, Bool.true_and]
      cases ha : s.data.toList.all (fun b => signsL.contains b) with
      | true =>
        rw [ha] at hn
        have ht0 : Lib.trimS s.data.toList signsL = [] := hn.2 rfl
        have ht : ∀ h : LH, callX C 104 [.s (.str s), .s (.str ⟨#[97, 98, 99, 100, 101, 102, 103, 104, 105, 106, 107, 108, 109, 110, 111, 112, 113, 114, 115, 116, 117, 118, 119, 120, 121, 122, 48, 49, 50, 51, 52, 53, 54, 55, 56, 57]⟩)] h = some (.s (.str ⟨#[]⟩), h) := fun h => by rw [ht, ht0]
        clear hn ha ht0
        simp [e1, e1', h8', ht]
      | false =>
        have ht0 : Lib.trimS s.data.toList signsL ≠ [] := fun e => by rw [hn.1 e] at ha; cases ha
        have ht1 : (⟨(Lib.trimS s.data.toList signsL).toArray⟩ : ByteArray).toList.isEmpty = false := by
          rw [ByteArray.toList_eq]
          simpa using ht0
        have ht2 : ¬ (⟨(Lib.trimS s.data.toList signsL).toArray⟩ : ByteArray).toList = [] := by simpa using ht1
        simp [e1, e1', h8', ht, ht0, ht1, ht2]
    · have h8' : ¬ (s.size : Int) ≤ 8 := by omega
      have hd : decide (1 ≤ s.size ∧ s.size ≤ 8) = false := decide_eq_false (by omega)
      rw [hd, Bool.false_and]
      simp [e1, e1', h8']

/-! ### The maps -/
def txtM (m : Cm) : List (SV × SV) := [(.str ⟨#[73]⟩, .str m.a), (.str ⟨#[75]⟩, .str m.b), (.str ⟨#[74]⟩, .str m.j)]
def numM (m : Cm) : List (SV × SV) := [(.str ⟨#[67]⟩, .int .i64 m.c), (.str ⟨#[68]⟩, .int .i64 m.d), (.str ⟨#[89]⟩, .int .i64 m.y), (.str ⟨#[90]⟩, .int .i64 m.z), (.str ⟨#[80]⟩, .int .i64 m.p), (.str ⟨#[65]⟩, .int .i64 m.n), (.str ⟨#[82]⟩, .int .i64 m.r), (.str ⟨#[70]⟩, .int .i64 m.x)]
theorem k2 (a b : UInt8) (hab : a ≠ b) : keyEq (.str ⟨#[a]⟩) (.str ⟨#[b]⟩) = some false := by
  simp only [keyEq, ba_beq]
  rw [decide_eq_false]
  intro e
  injection e with e
  simp at e
  exact hab e
theorem texts_ok (m : Cm) (h : LH) : WPc C 73 [.agg (encC m)] h fun u h' => Gr h h' ∧ u = .s (.mp (h.length + 1)) ∧ h'[h.length + 1]? = some (.map (txtM m)) := by
  refine WPc.post fun Ψ hΨ => ?_
  refine WPc.intro (e := e73) rfl (Nat.le_of_ble_eq_true rfl) ?_
  simp [encC, putM, k2]
  refine hΨ _ _ ⟨Gr.self _ _, rfl, ?_⟩
  rw [get_len_add]; rfl
theorem numbers_ok (m : Cm) (h : LH) : WPc C 76 [.agg (encC m)] h fun u h' => Gr h h' ∧ u = .s (.mp (h.length + 1)) ∧ h'[h.length + 1]? = some (.map (numM m)) := by
  refine WPc.post fun Ψ hΨ => ?_
  refine WPc.intro (e := e76) rfl (Nat.le_of_ble_eq_true rfl) ?_
  simp [encC, putM, k2]
  refine hΨ _ _ ⟨Gr.self _ _, rfl, ?_⟩
  rw [get_len_add]; rfl
end Go.Proofs.YtiljgimcipdadaaGreatDoor.Ev.CK
