/-
  No cell of these rows narrows 'for every input' (looked for: loops, veiled, ifaces, maps, wideKeys, modest, calm, conditions, laid).
  DERIVED. THE GIVEN ROWS OF THIS SEAT. 9 by the template 'for every input the law returns true; each argument reads behind the call as it read before'; 0 by the template 'total and deterministic' (their statements: YtaafbpniakldpaaTotals.lean).
  GIVEN WITH THE SEED: the statements are not yours to turn. If you find one false, say at which input.
  Laid BY PROGRAM, IN A SANDBOX (cutbox-rows.mjs): the forced cells as the released guide's own fill.sh prints them over the translation aa8672f4ee9836a2… (all of the seat's roots in one cut). By AI agents, Wed Nov 11 2026. No macro, syntax, notation, axiom, sorry.
-/
import Derived.Test.YtaafbpniakldpaaChecked
import GoSem.Claim
import GoSem.ClaimJoined
import GoSem.ClaimMapViews
import Derived.JoinedTies
import Derived.KernelRfl
namespace Go.Proofs.Ytaafbpniakldpaa
/- THE CELL 'sum', in the pinned program and in every row, IS THE sha256 OF THE DUMP (.gsa) THAT YtaafbpniakldpaaProg.lean LOADS. Nothing in Lean hashes anything: it is a label: what it is worth is what the hold of that sum in a sandbox is worth. -/
noncomputable def Try.pinned : Pinned := { name := "ytaafbpniakldpaa", sum := "aa8672f4ee9836a2f07538c718766b9e0bd11a938f571eb8d110ff2810d9075f", checked := Try.checked }
namespace Rows
def none {H : Type} : Left H := { results := [], args := [] }

/-- 'scutagelaw08.StatusEnd': WHATEVER THE INPUT: true; the input reads as it did. -/
def statusEndSpec : ChangeSpec := { name := "statusEnd", fn := fun _ => fun
  | [d] => { results := [.lit (.bool true)], args := [d] }
  | _ => none }
def statusEndRow : OpenClaim := { program := "ytaafbpniakldpaa", sum := "aa8672f4ee9836a2f07538c718766b9e0bd11a938f571eb8d110ff2810d9075f", func := "scutage/scutagelaw08.StatusEnd", spec := "statusEnd", apart := false }
def StatusEndSaid : Prop := statusEndRow.holds Try.pinned (OpenSpec.ofChange statusEndSpec)

/-- ITS FALSE NEIGHBOUR: 'it returns false'. Refute it at one input. -/
def statusEndWrong : ChangeSpec := { name := "statusEnd", fn := fun _ => fun
  | [d] => { results := [.lit (.bool false)], args := [d] }
  | _ => none }
def StatusEndWrongFalsely : Prop := statusEndRow.holds Try.pinned (OpenSpec.ofChange statusEndWrong)

/-- 'scutagelaw08.StatusRow': WHATEVER THE INPUT: true; the input reads as it did. -/
def statusRowSpec : ChangeSpec := { name := "statusRow", fn := fun _ => fun
  | [d1, d2] => { results := [.lit (.bool true)], args := [d1, d2] }
  | _ => none }
def statusRowRow : OpenClaim := { program := "ytaafbpniakldpaa", sum := "aa8672f4ee9836a2f07538c718766b9e0bd11a938f571eb8d110ff2810d9075f", func := "scutage/scutagelaw08.StatusRow", spec := "statusRow", apart := false }
def StatusRowSaid : Prop := statusRowRow.holds Try.pinned (OpenSpec.ofChange statusRowSpec)

/-- ITS FALSE NEIGHBOUR: 'it returns false'. Refute it at one input. -/
def statusRowWrong : ChangeSpec := { name := "statusRow", fn := fun _ => fun
  | [d1, d2] => { results := [.lit (.bool false)], args := [d1, d2] }
  | _ => none }
def StatusRowWrongFalsely : Prop := statusRowRow.holds Try.pinned (OpenSpec.ofChange statusRowWrong)

/-- 'scutagelaw08.StatusBack': WHATEVER THE INPUT: true; the input reads as it did. -/
def statusBackSpec : ChangeSpec := { name := "statusBack", fn := fun _ => fun
  | [d1, d2, d3] => { results := [.lit (.bool true)], args := [d1, d2, d3] }
  | _ => none }
def statusBackRow : OpenClaim := { program := "ytaafbpniakldpaa", sum := "aa8672f4ee9836a2f07538c718766b9e0bd11a938f571eb8d110ff2810d9075f", func := "scutage/scutagelaw08.StatusBack", spec := "statusBack", apart := false }
def StatusBackSaid : Prop := statusBackRow.holds Try.pinned (OpenSpec.ofChange statusBackSpec)

/-- ITS FALSE NEIGHBOUR: 'it returns false'. Refute it at one input. -/
def statusBackWrong : ChangeSpec := { name := "statusBack", fn := fun _ => fun
  | [d1, d2, d3] => { results := [.lit (.bool false)], args := [d1, d2, d3] }
  | _ => none }
def StatusBackWrongFalsely : Prop := statusBackRow.holds Try.pinned (OpenSpec.ofChange statusBackWrong)

/-- 'scutagelaw08.StatusPlays': WHATEVER THE INPUT: true; the input reads as it did. -/
def statusPlaysSpec : ChangeSpec := { name := "statusPlays", fn := fun _ => fun
  | [d1, d2] => { results := [.lit (.bool true)], args := [d1, d2] }
  | _ => none }
def statusPlaysRow : OpenClaim := { program := "ytaafbpniakldpaa", sum := "aa8672f4ee9836a2f07538c718766b9e0bd11a938f571eb8d110ff2810d9075f", func := "scutage/scutagelaw08.StatusPlays", spec := "statusPlays", apart := false }
def StatusPlaysSaid : Prop := statusPlaysRow.holds Try.pinned (OpenSpec.ofChange statusPlaysSpec)

/-- ITS FALSE NEIGHBOUR: 'it returns false'. Refute it at one input. -/
def statusPlaysWrong : ChangeSpec := { name := "statusPlays", fn := fun _ => fun
  | [d1, d2] => { results := [.lit (.bool false)], args := [d1, d2] }
  | _ => none }
def StatusPlaysWrongFalsely : Prop := statusPlaysRow.holds Try.pinned (OpenSpec.ofChange statusPlaysWrong)

/-- 'scutagelaw09.EnactErrors': WHATEVER THE INPUT: true; the input reads as it did. -/
def enactErrorsSpec : ChangeSpec := { name := "enactErrors", fn := fun _ => fun
  | [d] => { results := [.lit (.bool true)], args := [d] }
  | _ => none }
def enactErrorsRow : OpenClaim := { program := "ytaafbpniakldpaa", sum := "aa8672f4ee9836a2f07538c718766b9e0bd11a938f571eb8d110ff2810d9075f", func := "scutage/scutagelaw09.EnactErrors", spec := "enactErrors", unfollowed := true, recurses := true, apart := false }
def EnactErrorsSaid : Prop := enactErrorsRow.holds Try.pinned (OpenSpec.ofChange enactErrorsSpec)

/-- ITS FALSE NEIGHBOUR: 'it returns false'. Refute it at one input. -/
def enactErrorsWrong : ChangeSpec := { name := "enactErrors", fn := fun _ => fun
  | [d] => { results := [.lit (.bool false)], args := [d] }
  | _ => none }
def EnactErrorsWrongFalsely : Prop := enactErrorsRow.holds Try.pinned (OpenSpec.ofChange enactErrorsWrong)

/-- 'scutagelaw09.EnactOrder': WHATEVER THE INPUT: true; the input reads as it did. -/
def enactOrderSpec : ChangeSpec := { name := "enactOrder", fn := fun _ => fun
  | [d1, d2, d3] => { results := [.lit (.bool true)], args := [d1, d2, d3] }
  | _ => none }
def enactOrderRow : OpenClaim := { program := "ytaafbpniakldpaa", sum := "aa8672f4ee9836a2f07538c718766b9e0bd11a938f571eb8d110ff2810d9075f", func := "scutage/scutagelaw09.EnactOrder", spec := "enactOrder", unfollowed := true, recurses := true, apart := false }
def EnactOrderSaid : Prop := enactOrderRow.holds Try.pinned (OpenSpec.ofChange enactOrderSpec)

/-- ITS FALSE NEIGHBOUR: 'it returns false'. Refute it at one input. -/
def enactOrderWrong : ChangeSpec := { name := "enactOrder", fn := fun _ => fun
  | [d1, d2, d3] => { results := [.lit (.bool false)], args := [d1, d2, d3] }
  | _ => none }
def EnactOrderWrongFalsely : Prop := enactOrderRow.holds Try.pinned (OpenSpec.ofChange enactOrderWrong)

/-- 'scutagelaw09.EnactLater': WHATEVER THE INPUT: true; the input reads as it did. -/
def enactLaterSpec : ChangeSpec := { name := "enactLater", fn := fun _ => fun
  | [d1, d2, d3, d4, d5] => { results := [.lit (.bool true)], args := [d1, d2, d3, d4, d5] }
  | _ => none }
def enactLaterRow : OpenClaim := { program := "ytaafbpniakldpaa", sum := "aa8672f4ee9836a2f07538c718766b9e0bd11a938f571eb8d110ff2810d9075f", func := "scutage/scutagelaw09.EnactLater", spec := "enactLater", unfollowed := true, recurses := true, apart := false }
def EnactLaterSaid : Prop := enactLaterRow.holds Try.pinned (OpenSpec.ofChange enactLaterSpec)

/-- ITS FALSE NEIGHBOUR: 'it returns false'. Refute it at one input. -/
def enactLaterWrong : ChangeSpec := { name := "enactLater", fn := fun _ => fun
  | [d1, d2, d3, d4, d5] => { results := [.lit (.bool false)], args := [d1, d2, d3, d4, d5] }
  | _ => none }
def EnactLaterWrongFalsely : Prop := enactLaterRow.holds Try.pinned (OpenSpec.ofChange enactLaterWrong)

/-- 'scutagelaw09.EnactPlays': WHATEVER THE INPUT: true; the input reads as it did. -/
def enactPlaysSpec : ChangeSpec := { name := "enactPlays", fn := fun _ => fun
  | [d] => { results := [.lit (.bool true)], args := [d] }
  | _ => none }
def enactPlaysRow : OpenClaim := { program := "ytaafbpniakldpaa", sum := "aa8672f4ee9836a2f07538c718766b9e0bd11a938f571eb8d110ff2810d9075f", func := "scutage/scutagelaw09.EnactPlays", spec := "enactPlays", unfollowed := true, recurses := true, apart := false }
def EnactPlaysSaid : Prop := enactPlaysRow.holds Try.pinned (OpenSpec.ofChange enactPlaysSpec)

/-- ITS FALSE NEIGHBOUR: 'it returns false'. Refute it at one input. -/
def enactPlaysWrong : ChangeSpec := { name := "enactPlays", fn := fun _ => fun
  | [d] => { results := [.lit (.bool false)], args := [d] }
  | _ => none }
def EnactPlaysWrongFalsely : Prop := enactPlaysRow.holds Try.pinned (OpenSpec.ofChange enactPlaysWrong)

/-- 'scutagelaw09.EnactGrows': WHATEVER THE INPUT: true; the input reads as it did. -/
def enactGrowsSpec : ChangeSpec := { name := "enactGrows", fn := fun _ => fun
  | [d1, d2, d3, d4] => { results := [.lit (.bool true)], args := [d1, d2, d3, d4] }
  | _ => none }
def enactGrowsRow : OpenClaim := { program := "ytaafbpniakldpaa", sum := "aa8672f4ee9836a2f07538c718766b9e0bd11a938f571eb8d110ff2810d9075f", func := "scutage/scutagelaw09.EnactGrows", spec := "enactGrows", unfollowed := true, recurses := true, apart := false }
def EnactGrowsSaid : Prop := enactGrowsRow.holds Try.pinned (OpenSpec.ofChange enactGrowsSpec)

/-- ITS FALSE NEIGHBOUR: 'it returns false'. Refute it at one input. -/
def enactGrowsWrong : ChangeSpec := { name := "enactGrows", fn := fun _ => fun
  | [d1, d2, d3, d4] => { results := [.lit (.bool false)], args := [d1, d2, d3, d4] }
  | _ => none }
def EnactGrowsWrongFalsely : Prop := enactGrowsRow.holds Try.pinned (OpenSpec.ofChange enactGrowsWrong)

/- THE SECOND FORM. 'bulk': how many values and letters a reading holds, each counted each time it is reached (what is shared counts as often as it is met; a slice's spare places count too). A statement '..UptoSaid' is the law's where the arguments, and the package variables that the reading takes, are together of bulk at most 1048576: NARROWER than '..Said'. Prove '..Said' where nothing that the law and all that it calls make is longer than what came in: it says more and counts as full. Else prove '..UptoSaid'. A law counts once. -/
mutual
def uptoBulk {H : Type} : DataW H → Nat
  | .lit (.string bytes) => bytes.length + 1
  | .lit _ => 1
  | .nil => 1
  | .ptr d => uptoBulk d + 1
  | .slice elems spare => uptoBulkAll elems + uptoBulkAll spare + 1
  | .agg parts => uptoBulkAll parts + 1
  | .iface _ d => uptoBulk d + 1
  | .map entries => uptoBulkEntries entries + 1
  | .held _ => 1
def uptoBulkAll {H : Type} : List (DataW H) → Nat
  | [] => 0
  | d :: r => uptoBulk d + uptoBulkAll r
def uptoBulkEntries {H : Type} : List (Lit × DataW H) → Nat
  | [] => 0
  | x :: r => uptoBulkEntry x + uptoBulkEntries r
def uptoBulkEntry {H : Type} : Lit × DataW H → Nat
  | (.string bytes, d) => bytes.length + uptoBulk d + 1
  | (_, d) => uptoBulk d + 1
 end
def uptoSmall : (H : Type) → List (DataW H) → Bool := fun _ ds => decide (uptoBulkAll ds ≤ 1048576)
def OpenSpec.upto (s : _root_.Go.ChangeSpec) : _root_.Go.OpenSpec := { _root_.Go.OpenSpec.ofChange s with cond := some uptoSmall }

/-- 'scutagelaw08.StatusEnd', WHERE WHAT IT READS IS OF BULK AT MOST 1048576: true; the input reads as it did. -/
def statusEndUptoRow : OpenClaim := { program := "ytaafbpniakldpaa", sum := "aa8672f4ee9836a2f07538c718766b9e0bd11a938f571eb8d110ff2810d9075f", func := "scutage/scutagelaw08.StatusEnd", spec := "statusEnd", apart := false, narrowed := true }
def StatusEndUptoSaid : Prop := statusEndUptoRow.holds Try.pinned (OpenSpec.upto statusEndSpec)

/-- 'scutagelaw08.StatusRow', WHERE WHAT IT READS IS OF BULK AT MOST 1048576: true; the input reads as it did. -/
def statusRowUptoRow : OpenClaim := { program := "ytaafbpniakldpaa", sum := "aa8672f4ee9836a2f07538c718766b9e0bd11a938f571eb8d110ff2810d9075f", func := "scutage/scutagelaw08.StatusRow", spec := "statusRow", apart := false, narrowed := true }
def StatusRowUptoSaid : Prop := statusRowUptoRow.holds Try.pinned (OpenSpec.upto statusRowSpec)

/-- 'scutagelaw08.StatusBack', WHERE WHAT IT READS IS OF BULK AT MOST 1048576: true; the input reads as it did. -/
def statusBackUptoRow : OpenClaim := { program := "ytaafbpniakldpaa", sum := "aa8672f4ee9836a2f07538c718766b9e0bd11a938f571eb8d110ff2810d9075f", func := "scutage/scutagelaw08.StatusBack", spec := "statusBack", apart := false, narrowed := true }
def StatusBackUptoSaid : Prop := statusBackUptoRow.holds Try.pinned (OpenSpec.upto statusBackSpec)

/-- 'scutagelaw08.StatusPlays', WHERE WHAT IT READS IS OF BULK AT MOST 1048576: true; the input reads as it did. -/
def statusPlaysUptoRow : OpenClaim := { program := "ytaafbpniakldpaa", sum := "aa8672f4ee9836a2f07538c718766b9e0bd11a938f571eb8d110ff2810d9075f", func := "scutage/scutagelaw08.StatusPlays", spec := "statusPlays", apart := false, narrowed := true }
def StatusPlaysUptoSaid : Prop := statusPlaysUptoRow.holds Try.pinned (OpenSpec.upto statusPlaysSpec)

/-- 'scutagelaw09.EnactErrors', WHERE WHAT IT READS IS OF BULK AT MOST 1048576: true; the input reads as it did. -/
def enactErrorsUptoRow : OpenClaim := { program := "ytaafbpniakldpaa", sum := "aa8672f4ee9836a2f07538c718766b9e0bd11a938f571eb8d110ff2810d9075f", func := "scutage/scutagelaw09.EnactErrors", spec := "enactErrors", unfollowed := true, recurses := true, apart := false, narrowed := true }
def EnactErrorsUptoSaid : Prop := enactErrorsUptoRow.holds Try.pinned (OpenSpec.upto enactErrorsSpec)

/-- 'scutagelaw09.EnactOrder', WHERE WHAT IT READS IS OF BULK AT MOST 1048576: true; the input reads as it did. -/
def enactOrderUptoRow : OpenClaim := { program := "ytaafbpniakldpaa", sum := "aa8672f4ee9836a2f07538c718766b9e0bd11a938f571eb8d110ff2810d9075f", func := "scutage/scutagelaw09.EnactOrder", spec := "enactOrder", unfollowed := true, recurses := true, apart := false, narrowed := true }
def EnactOrderUptoSaid : Prop := enactOrderUptoRow.holds Try.pinned (OpenSpec.upto enactOrderSpec)

/-- 'scutagelaw09.EnactLater', WHERE WHAT IT READS IS OF BULK AT MOST 1048576: true; the input reads as it did. -/
def enactLaterUptoRow : OpenClaim := { program := "ytaafbpniakldpaa", sum := "aa8672f4ee9836a2f07538c718766b9e0bd11a938f571eb8d110ff2810d9075f", func := "scutage/scutagelaw09.EnactLater", spec := "enactLater", unfollowed := true, recurses := true, apart := false, narrowed := true }
def EnactLaterUptoSaid : Prop := enactLaterUptoRow.holds Try.pinned (OpenSpec.upto enactLaterSpec)

/-- 'scutagelaw09.EnactPlays', WHERE WHAT IT READS IS OF BULK AT MOST 1048576: true; the input reads as it did. -/
def enactPlaysUptoRow : OpenClaim := { program := "ytaafbpniakldpaa", sum := "aa8672f4ee9836a2f07538c718766b9e0bd11a938f571eb8d110ff2810d9075f", func := "scutage/scutagelaw09.EnactPlays", spec := "enactPlays", unfollowed := true, recurses := true, apart := false, narrowed := true }
def EnactPlaysUptoSaid : Prop := enactPlaysUptoRow.holds Try.pinned (OpenSpec.upto enactPlaysSpec)

/-- 'scutagelaw09.EnactGrows', WHERE WHAT IT READS IS OF BULK AT MOST 1048576: true; the input reads as it did. -/
def enactGrowsUptoRow : OpenClaim := { program := "ytaafbpniakldpaa", sum := "aa8672f4ee9836a2f07538c718766b9e0bd11a938f571eb8d110ff2810d9075f", func := "scutage/scutagelaw09.EnactGrows", spec := "enactGrows", unfollowed := true, recurses := true, apart := false, narrowed := true }
def EnactGrowsUptoSaid : Prop := enactGrowsUptoRow.holds Try.pinned (OpenSpec.upto enactGrowsSpec)

end Rows
end Go.Proofs.Ytaafbpniakldpaa
