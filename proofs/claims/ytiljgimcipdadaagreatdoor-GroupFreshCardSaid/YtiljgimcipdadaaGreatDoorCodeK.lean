/- The code of some functions for the small machine, printed by a program of this proof. -/
import Derived.Test.YtiljgimcipdadaaGreatDoorCodeK1
import Derived.Lib.Index
import Derived.Lib.SlTrimSet
namespace Go.Proofs.YtiljgimcipdadaaGreatDoor.Ev.CK
open Go
/-- strings.Contains of one letter, by what it comes to. -/
def gHas : List FV → LH → Option (List FV × LH)
  | [.s (.str s), .s (.str t)], h => match t.data.toList with
    | [c] => some ([.s (.bool (decide (0 ≤ Lib.indexByte s.data.toList c)))], h)
    | _ => none
  | _, _ => none
def e74 : EF := ⟨2, .ext 2 1 gHas, (List.range 1).map fun i => .tmp (2 + i)⟩
/-- strings.Trim at a set of letters, by what it comes to. -/
def gTrim : List FV → LH → Option (List FV × LH)
  | [.s (.str s), .s (.str t)], h => if s.size ≤ 9223372036854775807 ∧ t.size < 1000 ∧ t.data.toList.all (fun b => decide (b.toNat < 128)) = true then some ([.s (.str ⟨(Lib.trimS s.data.toList t.data.toList).toArray⟩)], h) else none
  | _, _ => none
def e104 : EF := ⟨2, .ext 2 1 gTrim, (List.range 1).map fun i => .tmp (2 + i)⟩

def C : Nat → Option EF
  | 72 => some e72
  | 73 => some e73
  | 75 => some e75
  | 76 => some e76
  | 74 => some e74
  | 104 => some e104
  | _ => none
end Go.Proofs.YtiljgimcipdadaaGreatDoor.Ev.CK
