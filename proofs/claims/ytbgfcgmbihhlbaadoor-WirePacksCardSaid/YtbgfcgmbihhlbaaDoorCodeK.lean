/- The code of some functions for the small machine (printed by wip/tools/EvPrint.lean); some are known by what they come to. -/
import Derived.Test.YtbgfcgmbihhlbaaDoorEvKit
import Derived.Lib.Index
import Derived.Lib.SlTrimSet
namespace Go.Proofs.YtbgfcgmbihhlbaaDoor.Ev.CK
open Go
/-- scutage/group.Fields -/
def h33 : List (List Nat) := [[0], [3], [3, 4], [2], [2], [3, 6], [2], [2], [3, 8], [3, 8], [2], [2], [3, 11], [2], [2], [3, 13], [2], [2], [3, 15], [2], [2], [3, 17], [2], [2], [3, 19], [2], [2], [3, 21], [2], [2], [3, 23], [23], [2], [2], [2], [2]]
def s33_2 : EC := (.seq (.ops [⟨(some 2), .mov (.c (.s (.str ⟨#[63]⟩))), none⟩] [2])
  (.ret [2]))
def s33_1 : EC := (.seq (.seq (.ops [⟨(some 3), .mov (.t 0), none⟩] [3])
  (.block 0 (.seq (.ops [⟨(some 5), .bin .eql (.t 3) (.c (.s (.int .i64 1))), none⟩,
    ⟨(some 4), .mov (.t 5), none⟩] [3, 4])
  (.cond (.t 4) (.seq (.ops [⟨(some 2), .mov (.c (.s (.str ⟨#[74, 89, 82, 80]⟩))), none⟩] [2])
  (.ret [2]))
  (.seq (.ops [⟨(some 7), .bin .eql (.t 3) (.c (.s (.int .i64 2))), none⟩,
    ⟨(some 6), .mov (.t 7), none⟩] [3, 6])
  (.cond (.t 6) (.seq (.ops [⟨(some 2), .mov (.c (.s (.str ⟨#[73, 74, 82, 89, 80, 70]⟩))), none⟩] [2])
  (.ret [2]))
  (.seq (.seq (.ops [⟨(some 9), .bin .eql (.t 3) (.c (.s (.int .i64 3))), none⟩,
    ⟨(some 8), .mov (.t 9), none⟩] [3, 8])
  (.cond (.t 8) .skip
  (.ops [⟨(some 10), .bin .eql (.t 3) (.c (.s (.int .i64 4))), none⟩,
    ⟨(some 8), .mov (.t 10), none⟩] [3, 8])))
  (.cond (.t 8) (.seq (.ops [⟨(some 2), .mov (.c (.s (.str ⟨#[73, 65]⟩))), none⟩] [2])
  (.ret [2]))
  (.seq (.ops [⟨(some 12), .bin .eql (.t 3) (.c (.s (.int .i64 5))), none⟩,
    ⟨(some 11), .mov (.t 12), none⟩] [3, 11])
  (.cond (.t 11) (.seq (.ops [⟨(some 2), .mov (.c (.s (.str ⟨#[73, 67, 89, 65]⟩))), none⟩] [2])
  (.ret [2]))
  (.seq (.ops [⟨(some 14), .bin .eql (.t 3) (.c (.s (.int .i64 6))), none⟩,
    ⟨(some 13), .mov (.t 14), none⟩] [3, 13])
  (.cond (.t 13) (.seq (.ops [⟨(some 2), .mov (.c (.s (.str ⟨#[73, 67, 89, 68, 90, 65]⟩))), none⟩] [2])
  (.ret [2]))
  (.seq (.ops [⟨(some 16), .bin .eql (.t 3) (.c (.s (.int .i64 7))), none⟩,
    ⟨(some 15), .mov (.t 16), none⟩] [3, 15])
  (.cond (.t 15) (.seq (.ops [⟨(some 2), .mov (.c (.s (.str ⟨#[73, 82]⟩))), none⟩] [2])
  (.ret [2]))
  (.seq (.ops [⟨(some 18), .bin .eql (.t 3) (.c (.s (.int .i64 8))), none⟩,
    ⟨(some 17), .mov (.t 18), none⟩] [3, 17])
  (.cond (.t 17) (.seq (.ops [⟨(some 2), .mov (.c (.s (.str ⟨#[73, 82, 89]⟩))), none⟩] [2])
  (.ret [2]))
  (.seq (.ops [⟨(some 20), .bin .eql (.t 3) (.c (.s (.int .i64 9))), none⟩,
    ⟨(some 19), .mov (.t 20), none⟩] [3, 19])
  (.cond (.t 19) (.seq (.ops [⟨(some 2), .mov (.c (.s (.str ⟨#[73, 80, 65]⟩))), none⟩] [2])
  (.ret [2]))
  (.seq (.ops [⟨(some 22), .bin .eql (.t 3) (.c (.s (.int .i64 10))), none⟩,
    ⟨(some 21), .mov (.t 22), none⟩] [3, 21])
  (.cond (.t 21) (.seq (.ops [⟨(some 2), .mov (.c (.s (.str ⟨#[73, 75, 65]⟩))), none⟩] [2])
  (.ret [2]))
  (.seq (.seq (.ops [⟨(some 24), .bin .eql (.t 3) (.c (.s (.int .i64 11))), none⟩,
    ⟨(some 23), .mov (.t 24), none⟩] [3, 23])
  (.cond (.t 23) .skip
  (.ops [⟨(some 25), .bin .eql (.t 3) (.c (.s (.int .i64 12))), none⟩,
    ⟨(some 23), .mov (.t 25), none⟩] [23])))
  (.cond (.t 23) (.seq (.ops [⟨(some 2), .mov (.c (.s (.str ⟨#[73]⟩))), none⟩] [2])
  (.ret [2]))
  .skip))))))))))))))))))))))
  s33_2)
def b33 : EC := (.seq (.ops [⟨(some 2), .mov (.c (.s (.str ⟨#[]⟩))), none⟩] [0])
  s33_1)
def e33 : EF := ⟨26, b33, [.tmp 2]⟩

/-- scutage/group.texts -/
def h34 : List (List Nat) := [[1], [2], [2]]
def s34_1 : EC := (.seq (.ops [⟨(some 3), .mkm, none⟩,
    ⟨(some 4), .fad 1 (.t 1), none⟩,
    ⟨(some 5), .load false 1 (.t 4), none⟩,
    ⟨none, .mput true (.t 3) (.c (.s (.str ⟨#[73]⟩))) (.t 5), none⟩,
    ⟨(some 6), .fad 2 (.t 1), none⟩,
    ⟨(some 7), .load false 1 (.t 6), none⟩,
    ⟨none, .mput true (.t 3) (.c (.s (.str ⟨#[75]⟩))) (.t 7), none⟩,
    ⟨(some 8), .fad 3 (.t 1), none⟩,
    ⟨(some 9), .load false 1 (.t 8), none⟩,
    ⟨none, .mput true (.t 3) (.c (.s (.str ⟨#[74]⟩))) (.t 9), none⟩,
    ⟨(some 10), .mov (.t 3), none⟩,
    ⟨(some 2), .mov (.t 10), none⟩] [2])
  (.ret [2]))
def b34 : EC := (.seq (.ops [⟨(some 1), .new 23 12 (.t 0), none⟩,
    ⟨(some 2), .mov (.c (.s .nilm)), none⟩] [1])
  s34_1)
def e34 : EF := ⟨11, b34, [.tmp 2]⟩

/-- scutage/group.name -/
def h36 : List (List Nat) := [[0], [2], [2]]
def s36_1 : EC := (.seq (.ops [⟨(some 3), .mov (.t 0), none⟩,
    ⟨(some 4), .bin .neq (.t 3) (.c (.s (.str ⟨#[]⟩))), none⟩,
    ⟨(some 5), .mov (.t 4), none⟩,
    ⟨(some 6), .mov (.t 0), (some (5, true))⟩,
    ⟨(some 7), .slen (.t 6), (some (5, true))⟩,
    ⟨(some 8), .bin .leq (.t 7) (.c (.s (.int .i64 8))), (some (5, true))⟩,
    ⟨(some 9), .pick (.t 5) (.t 8) (.c (.s (.bool false))), none⟩,
    ⟨(some 10), .mov (.t 9), none⟩,
    ⟨(some 11), .mov (.t 0), (some (10, true))⟩,
    ⟨(some 12), .call 51 [(.t 11), (.c (.s (.str ⟨#[97, 98, 99, 100, 101, 102, 103, 104, 105, 106, 107, 108, 109, 110, 111, 112, 113, 114, 115, 116, 117, 118, 119, 120, 121, 122, 48, 49, 50, 51, 52, 53, 54, 55, 56, 57]⟩)))], (some (10, true))⟩,
    ⟨(some 13), .bin .eql (.t 12) (.c (.s (.str ⟨#[]⟩))), (some (10, true))⟩,
    ⟨(some 14), .pick (.t 10) (.t 13) (.c (.s (.bool false))), none⟩,
    ⟨(some 2), .mov (.t 14), none⟩] [2])
  (.ret [2]))
def b36 : EC := (.seq (.ops [⟨(some 2), .mov (.c (.s (.bool false))), none⟩] [0])
  s36_1)
def e36 : EF := ⟨15, b36, [.tmp 2]⟩

/-- scutage/group.numbers -/
def h37 : List (List Nat) := [[1], [2], [2]]
def s37_1 : EC := (.seq (.ops [⟨(some 3), .mkm, none⟩,
    ⟨(some 4), .fad 4 (.t 1), none⟩,
    ⟨(some 5), .load false 1 (.t 4), none⟩,
    ⟨none, .mput true (.t 3) (.c (.s (.str ⟨#[67]⟩))) (.t 5), none⟩,
    ⟨(some 6), .fad 5 (.t 1), none⟩,
    ⟨(some 7), .load false 1 (.t 6), none⟩,
    ⟨none, .mput true (.t 3) (.c (.s (.str ⟨#[68]⟩))) (.t 7), none⟩,
    ⟨(some 8), .fad 6 (.t 1), none⟩,
    ⟨(some 9), .load false 1 (.t 8), none⟩,
    ⟨none, .mput true (.t 3) (.c (.s (.str ⟨#[89]⟩))) (.t 9), none⟩,
    ⟨(some 10), .fad 7 (.t 1), none⟩,
    ⟨(some 11), .load false 1 (.t 10), none⟩,
    ⟨none, .mput true (.t 3) (.c (.s (.str ⟨#[90]⟩))) (.t 11), none⟩,
    ⟨(some 12), .fad 8 (.t 1), none⟩,
    ⟨(some 13), .load false 1 (.t 12), none⟩,
    ⟨none, .mput true (.t 3) (.c (.s (.str ⟨#[80]⟩))) (.t 13), none⟩,
    ⟨(some 14), .fad 9 (.t 1), none⟩,
    ⟨(some 15), .load false 1 (.t 14), none⟩,
    ⟨none, .mput true (.t 3) (.c (.s (.str ⟨#[65]⟩))) (.t 15), none⟩,
    ⟨(some 16), .fad 10 (.t 1), none⟩,
    ⟨(some 17), .load false 1 (.t 16), none⟩,
    ⟨none, .mput true (.t 3) (.c (.s (.str ⟨#[82]⟩))) (.t 17), none⟩,
    ⟨(some 18), .fad 11 (.t 1), none⟩,
    ⟨(some 19), .load false 1 (.t 18), none⟩,
    ⟨none, .mput true (.t 3) (.c (.s (.str ⟨#[70]⟩))) (.t 19), none⟩,
    ⟨(some 20), .mov (.t 3), none⟩,
    ⟨(some 2), .mov (.t 20), none⟩] [2])
  (.ret [2]))
def b37 : EC := (.seq (.ops [⟨(some 1), .new 23 12 (.t 0), none⟩,
    ⟨(some 2), .mov (.c (.s .nilm)), none⟩] [1])
  s37_1)
def e37 : EF := ⟨21, b37, [.tmp 2]⟩

/-- strings.Contains of one letter, by what it comes to. -/
def gHas : List FV → LH → Option (List FV × LH)
  | [.s (.str s), .s (.str t)], h => match t.data.toList with
    | [c] => some ([.s (.bool (decide (0 ≤ Lib.indexByte s.data.toList c)))], h)
    | _ => none
  | _, _ => none
def e35 : EF := ⟨2, .ext 2 1 gHas, (List.range 1).map fun i => .tmp (2 + i)⟩
/-- strings.Trim at a set of letters, by what it comes to. -/
def gTrim : List FV → LH → Option (List FV × LH)
  | [.s (.str s), .s (.str t)], h => if s.size ≤ 9223372036854775807 ∧ t.size < 1000 ∧ t.data.toList.all (fun b => decide (b.toNat < 128)) = true then some ([.s (.str ⟨(Lib.trimS s.data.toList t.data.toList).toArray⟩)], h) else none
  | _, _ => none
def e51 : EF := ⟨2, .ext 2 1 gTrim, (List.range 1).map fun i => .tmp (2 + i)⟩

def C : Nat → Option EF
  | 33 => some e33
  | 34 => some e34
  | 36 => some e36
  | 37 => some e37
  | 35 => some e35
  | 51 => some e51
  | _ => none

end Go.Proofs.YtbgfcgmbihhlbaaDoor.Ev.CK
