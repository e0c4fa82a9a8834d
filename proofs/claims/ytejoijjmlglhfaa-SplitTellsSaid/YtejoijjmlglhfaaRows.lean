/-
  No cell of these rows narrows 'for every input' (looked for: loops, veiled, ifaces, maps, wideKeys, modest, calm, conditions, laid).
  DERIVED. THE GIVEN ROWS OF THIS SEAT. 5 by the template 'for every input the law returns true; each argument reads behind the call as it read before'; 0 by the template 'total and deterministic' (their statements: YtejoijjmlglhfaaTotals.lean).
  GIVEN WITH THE SEED: the statements are not yours to turn. If you find one false, say at which input.
  Laid BY PROGRAM, IN A SANDBOX (cutbox-rows.mjs): the forced cells as the released guide's own fill.sh prints them over the translation fd208d250b94975f… (all of the seat's roots in one cut). By AI agents, Wed Nov 11 2026. No macro, syntax, notation, axiom, sorry.
-/
import Derived.Test.YtejoijjmlglhfaaChecked
import GoSem.Claim
import GoSem.ClaimJoined
import GoSem.ClaimMapViews
import Derived.JoinedTies
import Derived.KernelRfl
namespace Go.Proofs.Ytejoijjmlglhfaa
/- THE CELL 'sum', in the pinned program and in every row, IS THE sha256 OF THE DUMP (.gsa) THAT YtejoijjmlglhfaaProg.lean LOADS. Nothing in Lean hashes anything: it is a label: what it is worth is what the hold of that sum in a sandbox is worth. -/
noncomputable def Try.pinned : Pinned := { name := "ytejoijjmlglhfaa", sum := "fd208d250b94975fd79300fa2f1cb9b5786ea66160cdcaf6d37f0e8eea315a1b", checked := Try.checked }
namespace Rows
def none {H : Type} : Left H := { results := [], args := [] }

/-- 'scutagelaw02.SplitEven': WHATEVER THE INPUT: true; the input reads as it did. -/
def splitEvenSpec : ChangeSpec := { name := "splitEven", fn := fun _ => fun
  | [d1, d2, d3, d4] => { results := [.lit (.bool true)], args := [d1, d2, d3, d4] }
  | _ => none }
def splitEvenRow : OpenClaim := { program := "ytejoijjmlglhfaa", sum := "fd208d250b94975fd79300fa2f1cb9b5786ea66160cdcaf6d37f0e8eea315a1b", func := "scutage/scutagelaw02.SplitEven", spec := "splitEven", apart := false }
def SplitEvenSaid : Prop := splitEvenRow.holds Try.pinned (OpenSpec.ofChange splitEvenSpec)

/-- ITS FALSE NEIGHBOUR: 'it returns false'. Refute it at one input. -/
def splitEvenWrong : ChangeSpec := { name := "splitEven", fn := fun _ => fun
  | [d1, d2, d3, d4] => { results := [.lit (.bool false)], args := [d1, d2, d3, d4] }
  | _ => none }
def SplitEvenWrongFalsely : Prop := splitEvenRow.holds Try.pinned (OpenSpec.ofChange splitEvenWrong)

/-- 'scutagelaw02.SplitWhole': WHATEVER THE INPUT: true; the input reads as it did. -/
def splitWholeSpec : ChangeSpec := { name := "splitWhole", fn := fun _ => fun
  | [d1, d2] => { results := [.lit (.bool true)], args := [d1, d2] }
  | _ => none }
def splitWholeRow : OpenClaim := { program := "ytejoijjmlglhfaa", sum := "fd208d250b94975fd79300fa2f1cb9b5786ea66160cdcaf6d37f0e8eea315a1b", func := "scutage/scutagelaw02.SplitWhole", spec := "splitWhole", apart := false }
def SplitWholeSaid : Prop := splitWholeRow.holds Try.pinned (OpenSpec.ofChange splitWholeSpec)

/-- ITS FALSE NEIGHBOUR: 'it returns false'. Refute it at one input. -/
def splitWholeWrong : ChangeSpec := { name := "splitWhole", fn := fun _ => fun
  | [d1, d2] => { results := [.lit (.bool false)], args := [d1, d2] }
  | _ => none }
def SplitWholeWrongFalsely : Prop := splitWholeRow.holds Try.pinned (OpenSpec.ofChange splitWholeWrong)

/-- 'scutagelaw02.SplitTells': WHATEVER THE INPUT: true; the input reads as it did. -/
def splitTellsSpec : ChangeSpec := { name := "splitTells", fn := fun _ => fun
  | [d1, d2, d3] => { results := [.lit (.bool true)], args := [d1, d2, d3] }
  | _ => none }
def splitTellsRow : OpenClaim := { program := "ytejoijjmlglhfaa", sum := "fd208d250b94975fd79300fa2f1cb9b5786ea66160cdcaf6d37f0e8eea315a1b", func := "scutage/scutagelaw02.SplitTells", spec := "splitTells", recurses := true, apart := false }
def SplitTellsSaid : Prop := splitTellsRow.holds Try.pinned (OpenSpec.ofChange splitTellsSpec)

/-- ITS FALSE NEIGHBOUR: 'it returns false'. Refute it at one input. -/
def splitTellsWrong : ChangeSpec := { name := "splitTells", fn := fun _ => fun
  | [d1, d2, d3] => { results := [.lit (.bool false)], args := [d1, d2, d3] }
  | _ => none }
def SplitTellsWrongFalsely : Prop := splitTellsRow.holds Try.pinned (OpenSpec.ofChange splitTellsWrong)

/-- 'scutagelaw02.SplitSums': WHATEVER THE INPUT: true; the input reads as it did. -/
def splitSumsSpec : ChangeSpec := { name := "splitSums", fn := fun _ => fun
  | [d1, d2] => { results := [.lit (.bool true)], args := [d1, d2] }
  | _ => none }
def splitSumsRow : OpenClaim := { program := "ytejoijjmlglhfaa", sum := "fd208d250b94975fd79300fa2f1cb9b5786ea66160cdcaf6d37f0e8eea315a1b", func := "scutage/scutagelaw02.SplitSums", spec := "splitSums", apart := false }
def SplitSumsSaid : Prop := splitSumsRow.holds Try.pinned (OpenSpec.ofChange splitSumsSpec)

/-- ITS FALSE NEIGHBOUR: 'it returns false'. Refute it at one input. -/
def splitSumsWrong : ChangeSpec := { name := "splitSums", fn := fun _ => fun
  | [d1, d2] => { results := [.lit (.bool false)], args := [d1, d2] }
  | _ => none }
def SplitSumsWrongFalsely : Prop := splitSumsRow.holds Try.pinned (OpenSpec.ofChange splitSumsWrong)

/-- 'scutagelaw02.SplitTurns': WHATEVER THE INPUT: true; the input reads as it did. -/
def splitTurnsSpec : ChangeSpec := { name := "splitTurns", fn := fun _ => fun
  | [d1, d2] => { results := [.lit (.bool true)], args := [d1, d2] }
  | _ => none }
def splitTurnsRow : OpenClaim := { program := "ytejoijjmlglhfaa", sum := "fd208d250b94975fd79300fa2f1cb9b5786ea66160cdcaf6d37f0e8eea315a1b", func := "scutage/scutagelaw02.SplitTurns", spec := "splitTurns", apart := false }
def SplitTurnsSaid : Prop := splitTurnsRow.holds Try.pinned (OpenSpec.ofChange splitTurnsSpec)

/-- ITS FALSE NEIGHBOUR: 'it returns false'. Refute it at one input. -/
def splitTurnsWrong : ChangeSpec := { name := "splitTurns", fn := fun _ => fun
  | [d1, d2] => { results := [.lit (.bool false)], args := [d1, d2] }
  | _ => none }
def SplitTurnsWrongFalsely : Prop := splitTurnsRow.holds Try.pinned (OpenSpec.ofChange splitTurnsWrong)

/- THE SECOND FORM. 'bulk': how many values and letters a reading holds, each counted each time it is reached (what is shared counts as often as it is met; a slice's spare places count too). A statement '..UptoSaid' is the law's where the arguments, and the package variables that the reading takes, are together of bulk at most 1048576: NARROWER than '..Said'. Prove '..Said' where nothing that the law and all that it calls make is longer than what came in: it says more and counts as full. Else prove '..UptoSaid'. A law counts once. -/
mutual
def uptoBulk {H : Type} : DataW H → Nat
  | .lit (.string bytes) => bytes.length + 1
  | .lit _ => 1
  | .nil => 1
  | .ptr d => uptoBulk d + 1
  | .slice elems spare => uptoBulkAll elems + uptoBulkAll spare + 1
  | .agg parts => uptoBulkAll parts + 1
  | .iface _ d => uptoBulk d + 1
  | .map entries => uptoBulkEntries entries + 1
  | .held _ => 1
def uptoBulkAll {H : Type} : List (DataW H) → Nat
  | [] => 0
  | d :: r => uptoBulk d + uptoBulkAll r
def uptoBulkEntries {H : Type} : List (Lit × DataW H) → Nat
  | [] => 0
  | x :: r => uptoBulkEntry x + uptoBulkEntries r
def uptoBulkEntry {H : Type} : Lit × DataW H → Nat
  | (.string bytes, d) => bytes.length + uptoBulk d + 1
  | (_, d) => uptoBulk d + 1
 end
def uptoSmall : (H : Type) → List (DataW H) → Bool := fun _ ds => decide (uptoBulkAll ds ≤ 1048576)
def OpenSpec.upto (s : _root_.Go.ChangeSpec) : _root_.Go.OpenSpec := { _root_.Go.OpenSpec.ofChange s with cond := some uptoSmall }

/-- 'scutagelaw02.SplitEven', WHERE WHAT IT READS IS OF BULK AT MOST 1048576: true; the input reads as it did. -/
def splitEvenUptoRow : OpenClaim := { program := "ytejoijjmlglhfaa", sum := "fd208d250b94975fd79300fa2f1cb9b5786ea66160cdcaf6d37f0e8eea315a1b", func := "scutage/scutagelaw02.SplitEven", spec := "splitEven", apart := false, narrowed := true }
def SplitEvenUptoSaid : Prop := splitEvenUptoRow.holds Try.pinned (OpenSpec.upto splitEvenSpec)

/-- 'scutagelaw02.SplitWhole', WHERE WHAT IT READS IS OF BULK AT MOST 1048576: true; the input reads as it did. -/
def splitWholeUptoRow : OpenClaim := { program := "ytejoijjmlglhfaa", sum := "fd208d250b94975fd79300fa2f1cb9b5786ea66160cdcaf6d37f0e8eea315a1b", func := "scutage/scutagelaw02.SplitWhole", spec := "splitWhole", apart := false, narrowed := true }
def SplitWholeUptoSaid : Prop := splitWholeUptoRow.holds Try.pinned (OpenSpec.upto splitWholeSpec)

/-- 'scutagelaw02.SplitTells', WHERE WHAT IT READS IS OF BULK AT MOST 1048576: true; the input reads as it did. -/
def splitTellsUptoRow : OpenClaim := { program := "ytejoijjmlglhfaa", sum := "fd208d250b94975fd79300fa2f1cb9b5786ea66160cdcaf6d37f0e8eea315a1b", func := "scutage/scutagelaw02.SplitTells", spec := "splitTells", recurses := true, apart := false, narrowed := true }
def SplitTellsUptoSaid : Prop := splitTellsUptoRow.holds Try.pinned (OpenSpec.upto splitTellsSpec)

/-- 'scutagelaw02.SplitSums', WHERE WHAT IT READS IS OF BULK AT MOST 1048576: true; the input reads as it did. -/
def splitSumsUptoRow : OpenClaim := { program := "ytejoijjmlglhfaa", sum := "fd208d250b94975fd79300fa2f1cb9b5786ea66160cdcaf6d37f0e8eea315a1b", func := "scutage/scutagelaw02.SplitSums", spec := "splitSums", apart := false, narrowed := true }
def SplitSumsUptoSaid : Prop := splitSumsUptoRow.holds Try.pinned (OpenSpec.upto splitSumsSpec)

/-- 'scutagelaw02.SplitTurns', WHERE WHAT IT READS IS OF BULK AT MOST 1048576: true; the input reads as it did. -/
def splitTurnsUptoRow : OpenClaim := { program := "ytejoijjmlglhfaa", sum := "fd208d250b94975fd79300fa2f1cb9b5786ea66160cdcaf6d37f0e8eea315a1b", func := "scutage/scutagelaw02.SplitTurns", spec := "splitTurns", apart := false, narrowed := true }
def SplitTurnsUptoSaid : Prop := splitTurnsUptoRow.holds Try.pinned (OpenSpec.upto splitTurnsSpec)

end Rows
end Go.Proofs.Ytejoijjmlglhfaa
