/- What may be told a group: the rounds of its two loops, on the small machine. -/
import Derived.Test.YtiljgimcipdadaaGreatDoorChkA
set_option linter.unusedSimpArgs false
set_option linter.unusedVariables false
namespace Go.Proofs.YtiljgimcipdadaaGreatDoor.Ev.CK
open Go

def er1 : EC := .seq (.ops [⟨some 22, .mov (.t 3), none⟩, ⟨some 23, .mov (.t 4), none⟩, ⟨some 24, .call 74 [.t 22, .t 23], none⟩, ⟨some 6, .mov (.t 24), none⟩] [1, 3, 5, 6, 16])
  (.seq (.ops [⟨some 25, .mov (.t 6), none⟩, ⟨some 26, .mov (.t 25), none⟩, ⟨some 27, .mov (.t 5), some (26, true)⟩, ⟨some 28, .call 75 [.t 27], some (26, true)⟩, ⟨some 29, .un .not (.t 28), some (26, true)⟩, ⟨some 30, .pick (.t 26) (.t 29) (.c (.s (.bool false))), none⟩,
    ⟨some 31, .mov (.t 30), none⟩, ⟨some 32, .mov (.t 6), some (31, false)⟩, ⟨some 33, .un .not (.t 32), some (31, false)⟩, ⟨some 34, .mov (.t 33), some (31, false)⟩, ⟨some 35, .mov (.t 5), some (34, true)⟩, ⟨some 36, .bin .neq (.t 35) (.c (.s (.str ⟨#[]⟩))), some (34, true)⟩,
    ⟨some 37, .pick (.t 34) (.t 36) (.c (.s (.bool false))), some (31, false)⟩, ⟨some 38, .pick (.t 31) (.c (.s (.bool true))) (.t 37), none⟩] [1, 3, 16, 38])
  (.cond (.t 38) (.seq (.ops [⟨some 2, .mov (.c (.s (.int .i64 1))), none⟩] [2]) (.ret [2])) .skip))
def er2 : EC := .seq (.ops [⟨some 47, .mov (.t 8), none⟩, ⟨some 48, .bin .neq (.t 47) (.c (.s (.int .i64 0))), none⟩, ⟨some 49, .mov (.t 48), none⟩, ⟨some 50, .mov (.t 3), some (49, true)⟩, ⟨some 51, .mov (.t 7), some (49, true)⟩, ⟨some 52, .call 74 [.t 50, .t 51], some (49, true)⟩,
    ⟨some 53, .un .not (.t 52), some (49, true)⟩, ⟨some 54, .pick (.t 49) (.t 53) (.c (.s (.bool false))), none⟩] [3, 41, 54])
  (.cond (.t 54) (.seq (.ops [⟨some 2, .mov (.c (.s (.int .i64 1))), none⟩] [2]) (.ret [2])) .skip)

def good1 (k : Int) : SV × SV → Bool
  | (.str t, .str s) => match t.data.toList with
    | [c] => if hasF k c then nameF s else s.toList.isEmpty
    | _ => false
  | _ => false
def good2 (k : Int) : SV × SV → Bool
  | (.str t, .int _ n) => match t.data.toList with
    | [c] => n == 0 || hasF k c
    | _ => false
  | _ => false

def fr1 (iB ii : Nat) (k : Int) : Fr := [(1, some (.s (.ptr iB 0))), (3, some (.s (.str (fieldsB k)))), (16, some (.s (.ptr ii 0)))]
def frA1 (iB ii : Nat) (k : Int) (a b : SV) : Fr := (18, some (.s (.bool true))) :: (17, some (.tup [.s (.bool true), .s a, .s b])) :: fr1 iB ii k
def frB1 (iB ii : Nat) (k : Int) : Fr := (18, some (.s (.bool false))) :: (17, some (.tup [.s (.bool false)])) :: fr1 iB ii k
def frC1 (iB ii : Nat) (k : Int) (a b : SV) : Fr := (5, some (.s b)) :: (4, some (.s a)) :: (21, some (.s b)) :: (20, some (.s a)) :: (19, some (.tup [.s a, .s b])) :: frA1 iB ii k a b
def fr2 (ii : Nat) (k : Int) : Fr := [(3, some (.s (.str (fieldsB k)))), (41, some (.s (.ptr ii 0)))]
def frA2 (ii : Nat) (k : Int) (a b : SV) : Fr := (43, some (.s (.bool true))) :: (42, some (.tup [.s (.bool true), .s a, .s b])) :: fr2 ii k
def frB2 (ii : Nat) (k : Int) : Fr := (43, some (.s (.bool false))) :: (42, some (.tup [.s (.bool false)])) :: fr2 ii k
def frC2 (ii : Nat) (k : Int) (a b : SV) : Fr := (8, some (.s b)) :: (7, some (.s a)) :: (46, some (.s b)) :: (45, some (.s a)) :: (44, some (.tup [.s a, .s b])) :: frA2 ii k a b
def frR : Fr := [(2, some (.s (.int .i64 1)))]

theorem round1 {iB ii : Nat} {k : Int} {c : UInt8} {s : ByteArray} (h : LH) : WPk C er1 (frC1 iB ii k (.str ⟨#[c]⟩) (.str s)) h fun x fr h2 => h2 = h ∧ ((good1 k (.str ⟨#[c]⟩, .str s) = true ∧ x = .normal ∧ keepF [1, 3, 16] fr = fr1 iB ii k) ∨ (good1 k (.str ⟨#[c]⟩, .str s) = false ∧ x = .ret ∧ fr = frR)) := by
  have hg : good1 k (.str ⟨#[c]⟩, .str s) = if hasF k c then nameF s else s.toList.isEmpty := rfl
  rw [hg]
  cases hh : hasF k c with
  | true =>
    cases hn : nameF s with
    | true => simp [er1, frC1, frA1, fr1, frR, has_call, name_ok, hh, hn]
    | false => simp [er1, frC1, frA1, fr1, frR, has_call, name_ok, hh, hn]
  | false =>
    cases he : s.toList.isEmpty with
    | true =>
      have he' : s.toList = [] := by simpa using he
      simp [er1, frC1, frA1, fr1, frR, has_call, name_ok, hh, he, he']
    | false =>
      have he' : ¬ s.toList = [] := by simpa using he
      simp [er1, frC1, frA1, fr1, frR, has_call, name_ok, hh, he, he']

theorem round2 {ii : Nat} {k : Int} {c : UInt8} {n : Int} (h : LH) : WPk C er2 (frC2 ii k (.str ⟨#[c]⟩) (.int .i64 n)) h fun x fr h2 => h2 = h ∧ ((good2 k (.str ⟨#[c]⟩, .int .i64 n) = true ∧ x = .normal ∧ keepF [3, 41] fr = fr2 ii k) ∨ (good2 k (.str ⟨#[c]⟩, .int .i64 n) = false ∧ x = .ret ∧ fr = frR)) := by
  have hg : good2 k (.str ⟨#[c]⟩, .int .i64 n) = (n == 0 || hasF k c) := rfl
  rw [hg]
  by_cases h0 : n = 0
  · subst h0
    simp [er2, frC2, frA2, fr2, frR]
  · have e0 : (n == 0) = false := by simpa using h0
    have e1 : (n != 0) = true := by simpa using h0
    cases hh : hasF k c with
    | true => simp [er2, frC2, frA2, fr2, frR, has_call, hh, h0, e0, e1]
    | false => simp [er2, frC2, frA2, fr2, frR, has_call, hh, h0, e0, e1]

/-- May it be told? -/
def okC (m : Cm) : Bool := !(fieldsL m.k == [63]) && ((txtM m).all (good1 m.k) && (numM m).all (good2 m.k))

/-- group.Check, by what it comes to. -/
def cmOf : List SV → Option Cm
  | [.int .i64 k, .str a, .str b, .str j, .int .i64 c, .int .i64 d, .int .i64 y, .int .i64 z, .int .i64 p, .int .i64 n, .int .i64 r, .int .i64 x] => some ⟨k, a, b, j, c, d, y, z, p, n, r, x⟩
  | _ => none
theorem cmOf_enc (m : Cm) : cmOf (encC m) = some m := rfl
theorem cmOf_some {l : List SV} {m : Cm} (h : cmOf l = some m) : l = encC m := by
  unfold cmOf at h
  split at h
  · obtain rfl := Option.some.inj h; rfl
  · cases h
end Go.Proofs.YtiljgimcipdadaaGreatDoor.Ev.CK
