/-
  No cell of these rows narrows 'for every input' (looked for: loops, veiled, ifaces, maps, wideKeys, modest, calm, conditions, laid).
  DERIVED. THE GIVEN ROWS OF THIS SEAT. 10 by the template 'for every input the law returns true; each argument reads behind the call as it read before'; 0 by the template 'total and deterministic' (their statements: YtcimcccnhbbncaaTotals.lean).
  GIVEN WITH THE SEED: the statements are not yours to turn. If you find one false, say at which input.
  Laid BY PROGRAM, IN A SANDBOX (cutbox-rows.mjs): the forced cells as the released guide's own fill.sh prints them over the translation c7c8bded2bd7dc29… (all of the seat's roots in one cut). By AI agents, Wed Nov 11 2026. No macro, syntax, notation, axiom, sorry.
-/
import Derived.Test.YtcimcccnhbbncaaChecked
import GoSem.Claim
import GoSem.ClaimJoined
import GoSem.ClaimMapViews
import Derived.JoinedTies
import Derived.KernelRfl
namespace Go.Proofs.Ytcimcccnhbbncaa
/- THE CELL 'sum', in the pinned program and in every row, IS THE sha256 OF THE DUMP (.gsa) THAT YtcimcccnhbbncaaProg.lean LOADS. Nothing in Lean hashes anything: it is a label: what it is worth is what the hold of that sum in a sandbox is worth. -/
noncomputable def Try.pinned : Pinned := { name := "ytcimcccnhbbncaa", sum := "c7c8bded2bd7dc2943f323f871384894dc2ced4b9617c80b9c14da20e4f7b9f0", checked := Try.checked }
namespace Rows
def none {H : Type} : Left H := { results := [], args := [] }

/-- 'scutagelaw16.MeasureSums': WHATEVER THE INPUT: true; the input reads as it did. -/
def measureSumsSpec : ChangeSpec := { name := "measureSums", fn := fun _ => fun
  | [d1, d2] => { results := [.lit (.bool true)], args := [d1, d2] }
  | _ => none }
def measureSumsRow : OpenClaim := { program := "ytcimcccnhbbncaa", sum := "c7c8bded2bd7dc2943f323f871384894dc2ced4b9617c80b9c14da20e4f7b9f0", func := "scutage/scutagelaw16.MeasureSums", spec := "measureSums", apart := false }
def MeasureSumsSaid : Prop := measureSumsRow.holds Try.pinned (OpenSpec.ofChange measureSumsSpec)

/-- ITS FALSE NEIGHBOUR: 'it returns false'. Refute it at one input. -/
def measureSumsWrong : ChangeSpec := { name := "measureSums", fn := fun _ => fun
  | [d1, d2] => { results := [.lit (.bool false)], args := [d1, d2] }
  | _ => none }
def MeasureSumsWrongFalsely : Prop := measureSumsRow.holds Try.pinned (OpenSpec.ofChange measureSumsWrong)

/-- 'scutagelaw16.MeasureNear': WHATEVER THE INPUT: true; the input reads as it did. -/
def measureNearSpec : ChangeSpec := { name := "measureNear", fn := fun _ => fun
  | [d1, d2] => { results := [.lit (.bool true)], args := [d1, d2] }
  | _ => none }
def measureNearRow : OpenClaim := { program := "ytcimcccnhbbncaa", sum := "c7c8bded2bd7dc2943f323f871384894dc2ced4b9617c80b9c14da20e4f7b9f0", func := "scutage/scutagelaw16.MeasureNear", spec := "measureNear", apart := false }
def MeasureNearSaid : Prop := measureNearRow.holds Try.pinned (OpenSpec.ofChange measureNearSpec)

/-- ITS FALSE NEIGHBOUR: 'it returns false'. Refute it at one input. -/
def measureNearWrong : ChangeSpec := { name := "measureNear", fn := fun _ => fun
  | [d1, d2] => { results := [.lit (.bool false)], args := [d1, d2] }
  | _ => none }
def MeasureNearWrongFalsely : Prop := measureNearRow.holds Try.pinned (OpenSpec.ofChange measureNearWrong)

/-- 'scutagelaw16.MeasureErrors': WHATEVER THE INPUT: true; the input reads as it did. -/
def measureErrorsSpec : ChangeSpec := { name := "measureErrors", fn := fun _ => fun
  | [d] => { results := [.lit (.bool true)], args := [d] }
  | _ => none }
def measureErrorsRow : OpenClaim := { program := "ytcimcccnhbbncaa", sum := "c7c8bded2bd7dc2943f323f871384894dc2ced4b9617c80b9c14da20e4f7b9f0", func := "scutage/scutagelaw16.MeasureErrors", spec := "measureErrors", unfollowed := true, recurses := true, apart := false }
def MeasureErrorsSaid : Prop := measureErrorsRow.holds Try.pinned (OpenSpec.ofChange measureErrorsSpec)

/-- ITS FALSE NEIGHBOUR: 'it returns false'. Refute it at one input. -/
def measureErrorsWrong : ChangeSpec := { name := "measureErrors", fn := fun _ => fun
  | [d] => { results := [.lit (.bool false)], args := [d] }
  | _ => none }
def MeasureErrorsWrongFalsely : Prop := measureErrorsRow.holds Try.pinned (OpenSpec.ofChange measureErrorsWrong)

/-- 'scutagelaw16.MeasureKnown': WHATEVER THE INPUT: true; the input reads as it did. -/
def measureKnownSpec : ChangeSpec := { name := "measureKnown", fn := fun _ => fun
  | [d1, d2, d3] => { results := [.lit (.bool true)], args := [d1, d2, d3] }
  | _ => none }
def measureKnownRow : OpenClaim := { program := "ytcimcccnhbbncaa", sum := "c7c8bded2bd7dc2943f323f871384894dc2ced4b9617c80b9c14da20e4f7b9f0", func := "scutage/scutagelaw16.MeasureKnown", spec := "measureKnown", unfollowed := true, recurses := true, apart := false }
def MeasureKnownSaid : Prop := measureKnownRow.holds Try.pinned (OpenSpec.ofChange measureKnownSpec)

/-- ITS FALSE NEIGHBOUR: 'it returns false'. Refute it at one input. -/
def measureKnownWrong : ChangeSpec := { name := "measureKnown", fn := fun _ => fun
  | [d1, d2, d3] => { results := [.lit (.bool false)], args := [d1, d2, d3] }
  | _ => none }
def MeasureKnownWrongFalsely : Prop := measureKnownRow.holds Try.pinned (OpenSpec.ofChange measureKnownWrong)

/-- 'scutagelaw16.MeasureTells': WHATEVER THE INPUT: true; the input reads as it did. -/
def measureTellsSpec : ChangeSpec := { name := "measureTells", fn := fun _ => fun
  | [d1, d2, d3, d4, d5, d6, d7] => { results := [.lit (.bool true)], args := [d1, d2, d3, d4, d5, d6, d7] }
  | _ => none }
def measureTellsRow : OpenClaim := { program := "ytcimcccnhbbncaa", sum := "c7c8bded2bd7dc2943f323f871384894dc2ced4b9617c80b9c14da20e4f7b9f0", func := "scutage/scutagelaw16.MeasureTells", spec := "measureTells", unfollowed := true, recurses := true, apart := false }
def MeasureTellsSaid : Prop := measureTellsRow.holds Try.pinned (OpenSpec.ofChange measureTellsSpec)

/-- ITS FALSE NEIGHBOUR: 'it returns false'. Refute it at one input. -/
def measureTellsWrong : ChangeSpec := { name := "measureTells", fn := fun _ => fun
  | [d1, d2, d3, d4, d5, d6, d7] => { results := [.lit (.bool false)], args := [d1, d2, d3, d4, d5, d6, d7] }
  | _ => none }
def MeasureTellsWrongFalsely : Prop := measureTellsRow.holds Try.pinned (OpenSpec.ofChange measureTellsWrong)

/-- 'scutagelaw09.EnactErrors': WHATEVER THE INPUT: true; the input reads as it did. -/
def enactErrorsSpec : ChangeSpec := { name := "enactErrors", fn := fun _ => fun
  | [d] => { results := [.lit (.bool true)], args := [d] }
  | _ => none }
def enactErrorsRow : OpenClaim := { program := "ytcimcccnhbbncaa", sum := "c7c8bded2bd7dc2943f323f871384894dc2ced4b9617c80b9c14da20e4f7b9f0", func := "scutage/scutagelaw09.EnactErrors", spec := "enactErrors", unfollowed := true, recurses := true, apart := false }
def EnactErrorsSaid : Prop := enactErrorsRow.holds Try.pinned (OpenSpec.ofChange enactErrorsSpec)

/-- ITS FALSE NEIGHBOUR: 'it returns false'. Refute it at one input. -/
def enactErrorsWrong : ChangeSpec := { name := "enactErrors", fn := fun _ => fun
  | [d] => { results := [.lit (.bool false)], args := [d] }
  | _ => none }
def EnactErrorsWrongFalsely : Prop := enactErrorsRow.holds Try.pinned (OpenSpec.ofChange enactErrorsWrong)

/-- 'scutagelaw09.EnactOrder': WHATEVER THE INPUT: true; the input reads as it did. -/
def enactOrderSpec : ChangeSpec := { name := "enactOrder", fn := fun _ => fun
  | [d1, d2, d3] => { results := [.lit (.bool true)], args := [d1, d2, d3] }
  | _ => none }
def enactOrderRow : OpenClaim := { program := "ytcimcccnhbbncaa", sum := "c7c8bded2bd7dc2943f323f871384894dc2ced4b9617c80b9c14da20e4f7b9f0", func := "scutage/scutagelaw09.EnactOrder", spec := "enactOrder", unfollowed := true, recurses := true, apart := false }
def EnactOrderSaid : Prop := enactOrderRow.holds Try.pinned (OpenSpec.ofChange enactOrderSpec)

/-- ITS FALSE NEIGHBOUR: 'it returns false'. Refute it at one input. -/
def enactOrderWrong : ChangeSpec := { name := "enactOrder", fn := fun _ => fun
  | [d1, d2, d3] => { results := [.lit (.bool false)], args := [d1, d2, d3] }
  | _ => none }
def EnactOrderWrongFalsely : Prop := enactOrderRow.holds Try.pinned (OpenSpec.ofChange enactOrderWrong)

/-- 'scutagelaw09.EnactLater': WHATEVER THE INPUT: true; the input reads as it did. -/
def enactLaterSpec : ChangeSpec := { name := "enactLater", fn := fun _ => fun
  | [d1, d2, d3, d4, d5] => { results := [.lit (.bool true)], args := [d1, d2, d3, d4, d5] }
  | _ => none }
def enactLaterRow : OpenClaim := { program := "ytcimcccnhbbncaa", sum := "c7c8bded2bd7dc2943f323f871384894dc2ced4b9617c80b9c14da20e4f7b9f0", func := "scutage/scutagelaw09.EnactLater", spec := "enactLater", unfollowed := true, recurses := true, apart := false }
def EnactLaterSaid : Prop := enactLaterRow.holds Try.pinned (OpenSpec.ofChange enactLaterSpec)

/-- ITS FALSE NEIGHBOUR: 'it returns false'. Refute it at one input. -/
def enactLaterWrong : ChangeSpec := { name := "enactLater", fn := fun _ => fun
  | [d1, d2, d3, d4, d5] => { results := [.lit (.bool false)], args := [d1, d2, d3, d4, d5] }
  | _ => none }
def EnactLaterWrongFalsely : Prop := enactLaterRow.holds Try.pinned (OpenSpec.ofChange enactLaterWrong)

/-- 'scutagelaw09.EnactPlays': WHATEVER THE INPUT: true; the input reads as it did. -/
def enactPlaysSpec : ChangeSpec := { name := "enactPlays", fn := fun _ => fun
  | [d] => { results := [.lit (.bool true)], args := [d] }
  | _ => none }
def enactPlaysRow : OpenClaim := { program := "ytcimcccnhbbncaa", sum := "c7c8bded2bd7dc2943f323f871384894dc2ced4b9617c80b9c14da20e4f7b9f0", func := "scutage/scutagelaw09.EnactPlays", spec := "enactPlays", unfollowed := true, recurses := true, apart := false }
def EnactPlaysSaid : Prop := enactPlaysRow.holds Try.pinned (OpenSpec.ofChange enactPlaysSpec)

/-- ITS FALSE NEIGHBOUR: 'it returns false'. Refute it at one input. -/
def enactPlaysWrong : ChangeSpec := { name := "enactPlays", fn := fun _ => fun
  | [d] => { results := [.lit (.bool false)], args := [d] }
  | _ => none }
def EnactPlaysWrongFalsely : Prop := enactPlaysRow.holds Try.pinned (OpenSpec.ofChange enactPlaysWrong)

/-- 'scutagelaw09.EnactGrows': WHATEVER THE INPUT: true; the input reads as it did. -/
def enactGrowsSpec : ChangeSpec := { name := "enactGrows", fn := fun _ => fun
  | [d1, d2, d3, d4] => { results := [.lit (.bool true)], args := [d1, d2, d3, d4] }
  | _ => none }
def enactGrowsRow : OpenClaim := { program := "ytcimcccnhbbncaa", sum := "c7c8bded2bd7dc2943f323f871384894dc2ced4b9617c80b9c14da20e4f7b9f0", func := "scutage/scutagelaw09.EnactGrows", spec := "enactGrows", unfollowed := true, recurses := true, apart := false }
def EnactGrowsSaid : Prop := enactGrowsRow.holds Try.pinned (OpenSpec.ofChange enactGrowsSpec)

/-- ITS FALSE NEIGHBOUR: 'it returns false'. Refute it at one input. -/
def enactGrowsWrong : ChangeSpec := { name := "enactGrows", fn := fun _ => fun
  | [d1, d2, d3, d4] => { results := [.lit (.bool false)], args := [d1, d2, d3, d4] }
  | _ => none }
def EnactGrowsWrongFalsely : Prop := enactGrowsRow.holds Try.pinned (OpenSpec.ofChange enactGrowsWrong)

/- THE SECOND FORM. 'bulk': how many values and letters a reading holds, each counted each time it is reached (what is shared counts as often as it is met; a slice's spare places count too). A statement '..UptoSaid' is the law's where the arguments, and the package variables that the reading takes, are together of bulk at most 1048576: NARROWER than '..Said'. Prove '..Said' where nothing that the law and all that it calls make is longer than what came in: it says more and counts as full. Else prove '..UptoSaid'. A law counts once. -/
mutual
def uptoBulk {H : Type} : DataW H → Nat
  | .lit (.string bytes) => bytes.length + 1
  | .lit _ => 1
  | .nil => 1
  | .ptr d => uptoBulk d + 1
  | .slice elems spare => uptoBulkAll elems + uptoBulkAll spare + 1
  | .agg parts => uptoBulkAll parts + 1
  | .iface _ d => uptoBulk d + 1
  | .map entries => uptoBulkEntries entries + 1
  | .held _ => 1
def uptoBulkAll {H : Type} : List (DataW H) → Nat
  | [] => 0
  | d :: r => uptoBulk d + uptoBulkAll r
def uptoBulkEntries {H : Type} : List (Lit × DataW H) → Nat
  | [] => 0
  | x :: r => uptoBulkEntry x + uptoBulkEntries r
def uptoBulkEntry {H : Type} : Lit × DataW H → Nat
  | (.string bytes, d) => bytes.length + uptoBulk d + 1
  | (_, d) => uptoBulk d + 1
 end
def uptoSmall : (H : Type) → List (DataW H) → Bool := fun _ ds => decide (uptoBulkAll ds ≤ 1048576)
def OpenSpec.upto (s : _root_.Go.ChangeSpec) : _root_.Go.OpenSpec := { _root_.Go.OpenSpec.ofChange s with cond := some uptoSmall }

/-- 'scutagelaw16.MeasureSums', WHERE WHAT IT READS IS OF BULK AT MOST 1048576: true; the input reads as it did. -/
def measureSumsUptoRow : OpenClaim := { program := "ytcimcccnhbbncaa", sum := "c7c8bded2bd7dc2943f323f871384894dc2ced4b9617c80b9c14da20e4f7b9f0", func := "scutage/scutagelaw16.MeasureSums", spec := "measureSums", apart := false, narrowed := true }
def MeasureSumsUptoSaid : Prop := measureSumsUptoRow.holds Try.pinned (OpenSpec.upto measureSumsSpec)

/-- 'scutagelaw16.MeasureNear', WHERE WHAT IT READS IS OF BULK AT MOST 1048576: true; the input reads as it did. -/
def measureNearUptoRow : OpenClaim := { program := "ytcimcccnhbbncaa", sum := "c7c8bded2bd7dc2943f323f871384894dc2ced4b9617c80b9c14da20e4f7b9f0", func := "scutage/scutagelaw16.MeasureNear", spec := "measureNear", apart := false, narrowed := true }
def MeasureNearUptoSaid : Prop := measureNearUptoRow.holds Try.pinned (OpenSpec.upto measureNearSpec)

/-- 'scutagelaw16.MeasureErrors', WHERE WHAT IT READS IS OF BULK AT MOST 1048576: true; the input reads as it did. -/
def measureErrorsUptoRow : OpenClaim := { program := "ytcimcccnhbbncaa", sum := "c7c8bded2bd7dc2943f323f871384894dc2ced4b9617c80b9c14da20e4f7b9f0", func := "scutage/scutagelaw16.MeasureErrors", spec := "measureErrors", unfollowed := true, recurses := true, apart := false, narrowed := true }
def MeasureErrorsUptoSaid : Prop := measureErrorsUptoRow.holds Try.pinned (OpenSpec.upto measureErrorsSpec)

/-- 'scutagelaw16.MeasureKnown', WHERE WHAT IT READS IS OF BULK AT MOST 1048576: true; the input reads as it did. -/
def measureKnownUptoRow : OpenClaim := { program := "ytcimcccnhbbncaa", sum := "c7c8bded2bd7dc2943f323f871384894dc2ced4b9617c80b9c14da20e4f7b9f0", func := "scutage/scutagelaw16.MeasureKnown", spec := "measureKnown", unfollowed := true, recurses := true, apart := false, narrowed := true }
def MeasureKnownUptoSaid : Prop := measureKnownUptoRow.holds Try.pinned (OpenSpec.upto measureKnownSpec)

/-- 'scutagelaw16.MeasureTells', WHERE WHAT IT READS IS OF BULK AT MOST 1048576: true; the input reads as it did. -/
def measureTellsUptoRow : OpenClaim := { program := "ytcimcccnhbbncaa", sum := "c7c8bded2bd7dc2943f323f871384894dc2ced4b9617c80b9c14da20e4f7b9f0", func := "scutage/scutagelaw16.MeasureTells", spec := "measureTells", unfollowed := true, recurses := true, apart := false, narrowed := true }
def MeasureTellsUptoSaid : Prop := measureTellsUptoRow.holds Try.pinned (OpenSpec.upto measureTellsSpec)

/-- 'scutagelaw09.EnactErrors', WHERE WHAT IT READS IS OF BULK AT MOST 1048576: true; the input reads as it did. -/
def enactErrorsUptoRow : OpenClaim := { program := "ytcimcccnhbbncaa", sum := "c7c8bded2bd7dc2943f323f871384894dc2ced4b9617c80b9c14da20e4f7b9f0", func := "scutage/scutagelaw09.EnactErrors", spec := "enactErrors", unfollowed := true, recurses := true, apart := false, narrowed := true }
def EnactErrorsUptoSaid : Prop := enactErrorsUptoRow.holds Try.pinned (OpenSpec.upto enactErrorsSpec)

/-- 'scutagelaw09.EnactOrder', WHERE WHAT IT READS IS OF BULK AT MOST 1048576: true; the input reads as it did. -/
def enactOrderUptoRow : OpenClaim := { program := "ytcimcccnhbbncaa", sum := "c7c8bded2bd7dc2943f323f871384894dc2ced4b9617c80b9c14da20e4f7b9f0", func := "scutage/scutagelaw09.EnactOrder", spec := "enactOrder", unfollowed := true, recurses := true, apart := false, narrowed := true }
def EnactOrderUptoSaid : Prop := enactOrderUptoRow.holds Try.pinned (OpenSpec.upto enactOrderSpec)

/-- 'scutagelaw09.EnactLater', WHERE WHAT IT READS IS OF BULK AT MOST 1048576: true; the input reads as it did. -/
def enactLaterUptoRow : OpenClaim := { program := "ytcimcccnhbbncaa", sum := "c7c8bded2bd7dc2943f323f871384894dc2ced4b9617c80b9c14da20e4f7b9f0", func := "scutage/scutagelaw09.EnactLater", spec := "enactLater", unfollowed := true, recurses := true, apart := false, narrowed := true }
def EnactLaterUptoSaid : Prop := enactLaterUptoRow.holds Try.pinned (OpenSpec.upto enactLaterSpec)

/-- 'scutagelaw09.EnactPlays', WHERE WHAT IT READS IS OF BULK AT MOST 1048576: true; the input reads as it did. -/
def enactPlaysUptoRow : OpenClaim := { program := "ytcimcccnhbbncaa", sum := "c7c8bded2bd7dc2943f323f871384894dc2ced4b9617c80b9c14da20e4f7b9f0", func := "scutage/scutagelaw09.EnactPlays", spec := "enactPlays", unfollowed := true, recurses := true, apart := false, narrowed := true }
def EnactPlaysUptoSaid : Prop := enactPlaysUptoRow.holds Try.pinned (OpenSpec.upto enactPlaysSpec)

/-- 'scutagelaw09.EnactGrows', WHERE WHAT IT READS IS OF BULK AT MOST 1048576: true; the input reads as it did. -/
def enactGrowsUptoRow : OpenClaim := { program := "ytcimcccnhbbncaa", sum := "c7c8bded2bd7dc2943f323f871384894dc2ced4b9617c80b9c14da20e4f7b9f0", func := "scutage/scutagelaw09.EnactGrows", spec := "enactGrows", unfollowed := true, recurses := true, apart := false, narrowed := true }
def EnactGrowsUptoSaid : Prop := enactGrowsUptoRow.holds Try.pinned (OpenSpec.upto enactGrowsSpec)

end Rows
end Go.Proofs.Ytcimcccnhbbncaa
