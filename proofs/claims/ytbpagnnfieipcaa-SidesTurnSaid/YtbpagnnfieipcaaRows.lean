/-
  No cell of these rows narrows 'for every input' (looked for: loops, veiled, ifaces, maps, wideKeys, modest, calm, conditions, laid).
  DERIVED. THE GIVEN ROWS OF THIS SEAT. 12 by the template 'for every input the law returns true; each argument reads behind the call as it read before'; 0 by the template 'total and deterministic' (their statements: YtbpagnnfieipcaaTotals.lean).
  GIVEN WITH THE SEED: the statements are not yours to turn. If you find one false, say at which input.
  Laid BY PROGRAM, IN A SANDBOX (cutbox-rows.mjs): the forced cells as the released guide's own fill.sh prints them over the translation c6ea5552ac735bf5… (all of the seat's roots in one cut). By AI agents, Wed Nov 11 2026. No macro, syntax, notation, axiom, sorry.
-/
import Derived.Test.YtbpagnnfieipcaaChecked
import GoSem.Claim
import GoSem.ClaimJoined
import GoSem.ClaimMapViews
import Derived.JoinedTies
import Derived.KernelRfl
namespace Go.Proofs.Ytbpagnnfieipcaa
/- THE CELL 'sum', in the pinned program and in every row, IS THE sha256 OF THE DUMP (.gsa) THAT YtbpagnnfieipcaaProg.lean LOADS. Nothing in Lean hashes anything: it is a label: what it is worth is what the hold of that sum in a sandbox is worth. -/
noncomputable def Try.pinned : Pinned := { name := "ytbpagnnfieipcaa", sum := "c6ea5552ac735bf5bbfd5def460ab2d6ce590b51706b9070c6b9e18272cc47e5", checked := Try.checked }
namespace Rows
def none {H : Type} : Left H := { results := [], args := [] }

/-- 'scutagelaw18.AllowErrors': WHATEVER THE INPUT: true; the input reads as it did. -/
def allowErrorsSpec : ChangeSpec := { name := "allowErrors", fn := fun _ => fun
  | [d1, d2, d3, d4] => { results := [.lit (.bool true)], args := [d1, d2, d3, d4] }
  | _ => none }
def allowErrorsRow : OpenClaim := { program := "ytbpagnnfieipcaa", sum := "c6ea5552ac735bf5bbfd5def460ab2d6ce590b51706b9070c6b9e18272cc47e5", func := "scutage/scutagelaw18.AllowErrors", spec := "allowErrors", apart := false }
def AllowErrorsSaid : Prop := allowErrorsRow.holds Try.pinned (OpenSpec.ofChange allowErrorsSpec)

/-- ITS FALSE NEIGHBOUR: 'it returns false'. Refute it at one input. -/
def allowErrorsWrong : ChangeSpec := { name := "allowErrors", fn := fun _ => fun
  | [d1, d2, d3, d4] => { results := [.lit (.bool false)], args := [d1, d2, d3, d4] }
  | _ => none }
def AllowErrorsWrongFalsely : Prop := allowErrorsRow.holds Try.pinned (OpenSpec.ofChange allowErrorsWrong)

/-- 'scutagelaw18.AllowTells': WHATEVER THE INPUT: true; the input reads as it did. -/
def allowTellsSpec : ChangeSpec := { name := "allowTells", fn := fun _ => fun
  | [d1, d2, d3, d4] => { results := [.lit (.bool true)], args := [d1, d2, d3, d4] }
  | _ => none }
def allowTellsRow : OpenClaim := { program := "ytbpagnnfieipcaa", sum := "c6ea5552ac735bf5bbfd5def460ab2d6ce590b51706b9070c6b9e18272cc47e5", func := "scutage/scutagelaw18.AllowTells", spec := "allowTells", recurses := true, apart := false }
def AllowTellsSaid : Prop := allowTellsRow.holds Try.pinned (OpenSpec.ofChange allowTellsSpec)

/-- ITS FALSE NEIGHBOUR: 'it returns false'. Refute it at one input. -/
def allowTellsWrong : ChangeSpec := { name := "allowTells", fn := fun _ => fun
  | [d1, d2, d3, d4] => { results := [.lit (.bool false)], args := [d1, d2, d3, d4] }
  | _ => none }
def AllowTellsWrongFalsely : Prop := allowTellsRow.holds Try.pinned (OpenSpec.ofChange allowTellsWrong)

/-- 'scutagelaw18.AllowParts': WHATEVER THE INPUT: true; the input reads as it did. -/
def allowPartsSpec : ChangeSpec := { name := "allowParts", fn := fun _ => fun
  | [d1, d2] => { results := [.lit (.bool true)], args := [d1, d2] }
  | _ => none }
def allowPartsRow : OpenClaim := { program := "ytbpagnnfieipcaa", sum := "c6ea5552ac735bf5bbfd5def460ab2d6ce590b51706b9070c6b9e18272cc47e5", func := "scutage/scutagelaw18.AllowParts", spec := "allowParts", apart := false }
def AllowPartsSaid : Prop := allowPartsRow.holds Try.pinned (OpenSpec.ofChange allowPartsSpec)

/-- ITS FALSE NEIGHBOUR: 'it returns false'. Refute it at one input. -/
def allowPartsWrong : ChangeSpec := { name := "allowParts", fn := fun _ => fun
  | [d1, d2] => { results := [.lit (.bool false)], args := [d1, d2] }
  | _ => none }
def AllowPartsWrongFalsely : Prop := allowPartsRow.holds Try.pinned (OpenSpec.ofChange allowPartsWrong)

/-- 'scutagelaw18.AllowRises': WHATEVER THE INPUT: true; the input reads as it did. -/
def allowRisesSpec : ChangeSpec := { name := "allowRises", fn := fun _ => fun
  | [d1, d2, d3, d4] => { results := [.lit (.bool true)], args := [d1, d2, d3, d4] }
  | _ => none }
def allowRisesRow : OpenClaim := { program := "ytbpagnnfieipcaa", sum := "c6ea5552ac735bf5bbfd5def460ab2d6ce590b51706b9070c6b9e18272cc47e5", func := "scutage/scutagelaw18.AllowRises", spec := "allowRises", apart := false }
def AllowRisesSaid : Prop := allowRisesRow.holds Try.pinned (OpenSpec.ofChange allowRisesSpec)

/-- ITS FALSE NEIGHBOUR: 'it returns false'. Refute it at one input. -/
def allowRisesWrong : ChangeSpec := { name := "allowRises", fn := fun _ => fun
  | [d1, d2, d3, d4] => { results := [.lit (.bool false)], args := [d1, d2, d3, d4] }
  | _ => none }
def AllowRisesWrongFalsely : Prop := allowRisesRow.holds Try.pinned (OpenSpec.ofChange allowRisesWrong)

/-- 'scutagelaw22.TrueupErrors': WHATEVER THE INPUT: true; the input reads as it did. -/
def trueupErrorsSpec : ChangeSpec := { name := "trueupErrors", fn := fun _ => fun
  | [d1, d2] => { results := [.lit (.bool true)], args := [d1, d2] }
  | _ => none }
def trueupErrorsRow : OpenClaim := { program := "ytbpagnnfieipcaa", sum := "c6ea5552ac735bf5bbfd5def460ab2d6ce590b51706b9070c6b9e18272cc47e5", func := "scutage/scutagelaw22.TrueupErrors", spec := "trueupErrors", apart := false }
def TrueupErrorsSaid : Prop := trueupErrorsRow.holds Try.pinned (OpenSpec.ofChange trueupErrorsSpec)

/-- ITS FALSE NEIGHBOUR: 'it returns false'. Refute it at one input. -/
def trueupErrorsWrong : ChangeSpec := { name := "trueupErrors", fn := fun _ => fun
  | [d1, d2] => { results := [.lit (.bool false)], args := [d1, d2] }
  | _ => none }
def TrueupErrorsWrongFalsely : Prop := trueupErrorsRow.holds Try.pinned (OpenSpec.ofChange trueupErrorsWrong)

/-- 'scutagelaw22.TrueupTells': WHATEVER THE INPUT: true; the input reads as it did. -/
def trueupTellsSpec : ChangeSpec := { name := "trueupTells", fn := fun _ => fun
  | [d1, d2, d3] => { results := [.lit (.bool true)], args := [d1, d2, d3] }
  | _ => none }
def trueupTellsRow : OpenClaim := { program := "ytbpagnnfieipcaa", sum := "c6ea5552ac735bf5bbfd5def460ab2d6ce590b51706b9070c6b9e18272cc47e5", func := "scutage/scutagelaw22.TrueupTells", spec := "trueupTells", recurses := true, apart := false }
def TrueupTellsSaid : Prop := trueupTellsRow.holds Try.pinned (OpenSpec.ofChange trueupTellsSpec)

/-- ITS FALSE NEIGHBOUR: 'it returns false'. Refute it at one input. -/
def trueupTellsWrong : ChangeSpec := { name := "trueupTells", fn := fun _ => fun
  | [d1, d2, d3] => { results := [.lit (.bool false)], args := [d1, d2, d3] }
  | _ => none }
def TrueupTellsWrongFalsely : Prop := trueupTellsRow.holds Try.pinned (OpenSpec.ofChange trueupTellsWrong)

/-- 'scutagelaw22.TrueupNothing': WHATEVER THE INPUT: true; the input reads as it did. -/
def trueupNothingSpec : ChangeSpec := { name := "trueupNothing", fn := fun _ => fun
  | [d1, d2, d3] => { results := [.lit (.bool true)], args := [d1, d2, d3] }
  | _ => none }
def trueupNothingRow : OpenClaim := { program := "ytbpagnnfieipcaa", sum := "c6ea5552ac735bf5bbfd5def460ab2d6ce590b51706b9070c6b9e18272cc47e5", func := "scutage/scutagelaw22.TrueupNothing", spec := "trueupNothing", apart := false }
def TrueupNothingSaid : Prop := trueupNothingRow.holds Try.pinned (OpenSpec.ofChange trueupNothingSpec)

/-- ITS FALSE NEIGHBOUR: 'it returns false'. Refute it at one input. -/
def trueupNothingWrong : ChangeSpec := { name := "trueupNothing", fn := fun _ => fun
  | [d1, d2, d3] => { results := [.lit (.bool false)], args := [d1, d2, d3] }
  | _ => none }
def TrueupNothingWrongFalsely : Prop := trueupNothingRow.holds Try.pinned (OpenSpec.ofChange trueupNothingWrong)

/-- 'scutagelaw22.TrueupRises': WHATEVER THE INPUT: true; the input reads as it did. -/
def trueupRisesSpec : ChangeSpec := { name := "trueupRises", fn := fun _ => fun
  | [d1, d2, d3, d4] => { results := [.lit (.bool true)], args := [d1, d2, d3, d4] }
  | _ => none }
def trueupRisesRow : OpenClaim := { program := "ytbpagnnfieipcaa", sum := "c6ea5552ac735bf5bbfd5def460ab2d6ce590b51706b9070c6b9e18272cc47e5", func := "scutage/scutagelaw22.TrueupRises", spec := "trueupRises", apart := false }
def TrueupRisesSaid : Prop := trueupRisesRow.holds Try.pinned (OpenSpec.ofChange trueupRisesSpec)

/-- ITS FALSE NEIGHBOUR: 'it returns false'. Refute it at one input. -/
def trueupRisesWrong : ChangeSpec := { name := "trueupRises", fn := fun _ => fun
  | [d1, d2, d3, d4] => { results := [.lit (.bool false)], args := [d1, d2, d3, d4] }
  | _ => none }
def TrueupRisesWrongFalsely : Prop := trueupRisesRow.holds Try.pinned (OpenSpec.ofChange trueupRisesWrong)

/-- 'scutagelaw04.SidesGreat': WHATEVER THE INPUT: true; the input reads as it did. -/
def sidesGreatSpec : ChangeSpec := { name := "sidesGreat", fn := fun _ => fun
  | [d1, d2] => { results := [.lit (.bool true)], args := [d1, d2] }
  | _ => none }
def sidesGreatRow : OpenClaim := { program := "ytbpagnnfieipcaa", sum := "c6ea5552ac735bf5bbfd5def460ab2d6ce590b51706b9070c6b9e18272cc47e5", func := "scutage/scutagelaw04.SidesGreat", spec := "sidesGreat", apart := false }
def SidesGreatSaid : Prop := sidesGreatRow.holds Try.pinned (OpenSpec.ofChange sidesGreatSpec)

/-- ITS FALSE NEIGHBOUR: 'it returns false'. Refute it at one input. -/
def sidesGreatWrong : ChangeSpec := { name := "sidesGreat", fn := fun _ => fun
  | [d1, d2] => { results := [.lit (.bool false)], args := [d1, d2] }
  | _ => none }
def SidesGreatWrongFalsely : Prop := sidesGreatRow.holds Try.pinned (OpenSpec.ofChange sidesGreatWrong)

/-- 'scutagelaw04.SidesMeet': WHATEVER THE INPUT: true; the input reads as it did. -/
def sidesMeetSpec : ChangeSpec := { name := "sidesMeet", fn := fun _ => fun
  | [d] => { results := [.lit (.bool true)], args := [d] }
  | _ => none }
def sidesMeetRow : OpenClaim := { program := "ytbpagnnfieipcaa", sum := "c6ea5552ac735bf5bbfd5def460ab2d6ce590b51706b9070c6b9e18272cc47e5", func := "scutage/scutagelaw04.SidesMeet", spec := "sidesMeet", apart := false }
def SidesMeetSaid : Prop := sidesMeetRow.holds Try.pinned (OpenSpec.ofChange sidesMeetSpec)

/-- ITS FALSE NEIGHBOUR: 'it returns false'. Refute it at one input. -/
def sidesMeetWrong : ChangeSpec := { name := "sidesMeet", fn := fun _ => fun
  | [d] => { results := [.lit (.bool false)], args := [d] }
  | _ => none }
def SidesMeetWrongFalsely : Prop := sidesMeetRow.holds Try.pinned (OpenSpec.ofChange sidesMeetWrong)

/-- 'scutagelaw04.SidesTell': WHATEVER THE INPUT: true; the input reads as it did. -/
def sidesTellSpec : ChangeSpec := { name := "sidesTell", fn := fun _ => fun
  | [d] => { results := [.lit (.bool true)], args := [d] }
  | _ => none }
def sidesTellRow : OpenClaim := { program := "ytbpagnnfieipcaa", sum := "c6ea5552ac735bf5bbfd5def460ab2d6ce590b51706b9070c6b9e18272cc47e5", func := "scutage/scutagelaw04.SidesTell", spec := "sidesTell", apart := false }
def SidesTellSaid : Prop := sidesTellRow.holds Try.pinned (OpenSpec.ofChange sidesTellSpec)

/-- ITS FALSE NEIGHBOUR: 'it returns false'. Refute it at one input. -/
def sidesTellWrong : ChangeSpec := { name := "sidesTell", fn := fun _ => fun
  | [d] => { results := [.lit (.bool false)], args := [d] }
  | _ => none }
def SidesTellWrongFalsely : Prop := sidesTellRow.holds Try.pinned (OpenSpec.ofChange sidesTellWrong)

/-- 'scutagelaw04.SidesTurn': WHATEVER THE INPUT: true; the input reads as it did. -/
def sidesTurnSpec : ChangeSpec := { name := "sidesTurn", fn := fun _ => fun
  | [d] => { results := [.lit (.bool true)], args := [d] }
  | _ => none }
def sidesTurnRow : OpenClaim := { program := "ytbpagnnfieipcaa", sum := "c6ea5552ac735bf5bbfd5def460ab2d6ce590b51706b9070c6b9e18272cc47e5", func := "scutage/scutagelaw04.SidesTurn", spec := "sidesTurn", apart := false }
def SidesTurnSaid : Prop := sidesTurnRow.holds Try.pinned (OpenSpec.ofChange sidesTurnSpec)

/-- ITS FALSE NEIGHBOUR: 'it returns false'. Refute it at one input. -/
def sidesTurnWrong : ChangeSpec := { name := "sidesTurn", fn := fun _ => fun
  | [d] => { results := [.lit (.bool false)], args := [d] }
  | _ => none }
def SidesTurnWrongFalsely : Prop := sidesTurnRow.holds Try.pinned (OpenSpec.ofChange sidesTurnWrong)

/- THE SECOND FORM. 'bulk': how many values and letters a reading holds, each counted each time it is reached (what is shared counts as often as it is met; a slice's spare places count too). A statement '..UptoSaid' is the law's where the arguments, and the package variables that the reading takes, are together of bulk at most 1048576: NARROWER than '..Said'. Prove '..Said' where nothing that the law and all that it calls make is longer than what came in: it says more and counts as full. Else prove '..UptoSaid'. A law counts once. -/
mutual
def uptoBulk {H : Type} : DataW H → Nat
  | .lit (.string bytes) => bytes.length + 1
  | .lit _ => 1
  | .nil => 1
  | .ptr d => uptoBulk d + 1
  | .slice elems spare => uptoBulkAll elems + uptoBulkAll spare + 1
  | .agg parts => uptoBulkAll parts + 1
  | .iface _ d => uptoBulk d + 1
  | .map entries => uptoBulkEntries entries + 1
  | .held _ => 1
def uptoBulkAll {H : Type} : List (DataW H) → Nat
  | [] => 0
  | d :: r => uptoBulk d + uptoBulkAll r
def uptoBulkEntries {H : Type} : List (Lit × DataW H) → Nat
  | [] => 0
  | x :: r => uptoBulkEntry x + uptoBulkEntries r
def uptoBulkEntry {H : Type} : Lit × DataW H → Nat
  | (.string bytes, d) => bytes.length + uptoBulk d + 1
  | (_, d) => uptoBulk d + 1
 end
def uptoSmall : (H : Type) → List (DataW H) → Bool := fun _ ds => decide (uptoBulkAll ds ≤ 1048576)
def OpenSpec.upto (s : _root_.Go.ChangeSpec) : _root_.Go.OpenSpec := { _root_.Go.OpenSpec.ofChange s with cond := some uptoSmall }

/-- 'scutagelaw18.AllowErrors', WHERE WHAT IT READS IS OF BULK AT MOST 1048576: true; the input reads as it did. -/
def allowErrorsUptoRow : OpenClaim := { program := "ytbpagnnfieipcaa", sum := "c6ea5552ac735bf5bbfd5def460ab2d6ce590b51706b9070c6b9e18272cc47e5", func := "scutage/scutagelaw18.AllowErrors", spec := "allowErrors", apart := false, narrowed := true }
def AllowErrorsUptoSaid : Prop := allowErrorsUptoRow.holds Try.pinned (OpenSpec.upto allowErrorsSpec)

/-- 'scutagelaw18.AllowTells', WHERE WHAT IT READS IS OF BULK AT MOST 1048576: true; the input reads as it did. -/
def allowTellsUptoRow : OpenClaim := { program := "ytbpagnnfieipcaa", sum := "c6ea5552ac735bf5bbfd5def460ab2d6ce590b51706b9070c6b9e18272cc47e5", func := "scutage/scutagelaw18.AllowTells", spec := "allowTells", recurses := true, apart := false, narrowed := true }
def AllowTellsUptoSaid : Prop := allowTellsUptoRow.holds Try.pinned (OpenSpec.upto allowTellsSpec)

/-- 'scutagelaw18.AllowParts', WHERE WHAT IT READS IS OF BULK AT MOST 1048576: true; the input reads as it did. -/
def allowPartsUptoRow : OpenClaim := { program := "ytbpagnnfieipcaa", sum := "c6ea5552ac735bf5bbfd5def460ab2d6ce590b51706b9070c6b9e18272cc47e5", func := "scutage/scutagelaw18.AllowParts", spec := "allowParts", apart := false, narrowed := true }
def AllowPartsUptoSaid : Prop := allowPartsUptoRow.holds Try.pinned (OpenSpec.upto allowPartsSpec)

/-- 'scutagelaw18.AllowRises', WHERE WHAT IT READS IS OF BULK AT MOST 1048576: true; the input reads as it did. -/
def allowRisesUptoRow : OpenClaim := { program := "ytbpagnnfieipcaa", sum := "c6ea5552ac735bf5bbfd5def460ab2d6ce590b51706b9070c6b9e18272cc47e5", func := "scutage/scutagelaw18.AllowRises", spec := "allowRises", apart := false, narrowed := true }
def AllowRisesUptoSaid : Prop := allowRisesUptoRow.holds Try.pinned (OpenSpec.upto allowRisesSpec)

/-- 'scutagelaw22.TrueupErrors', WHERE WHAT IT READS IS OF BULK AT MOST 1048576: true; the input reads as it did. -/
def trueupErrorsUptoRow : OpenClaim := { program := "ytbpagnnfieipcaa", sum := "c6ea5552ac735bf5bbfd5def460ab2d6ce590b51706b9070c6b9e18272cc47e5", func := "scutage/scutagelaw22.TrueupErrors", spec := "trueupErrors", apart := false, narrowed := true }
def TrueupErrorsUptoSaid : Prop := trueupErrorsUptoRow.holds Try.pinned (OpenSpec.upto trueupErrorsSpec)

/-- 'scutagelaw22.TrueupTells', WHERE WHAT IT READS IS OF BULK AT MOST 1048576: true; the input reads as it did. -/
def trueupTellsUptoRow : OpenClaim := { program := "ytbpagnnfieipcaa", sum := "c6ea5552ac735bf5bbfd5def460ab2d6ce590b51706b9070c6b9e18272cc47e5", func := "scutage/scutagelaw22.TrueupTells", spec := "trueupTells", recurses := true, apart := false, narrowed := true }
def TrueupTellsUptoSaid : Prop := trueupTellsUptoRow.holds Try.pinned (OpenSpec.upto trueupTellsSpec)

/-- 'scutagelaw22.TrueupNothing', WHERE WHAT IT READS IS OF BULK AT MOST 1048576: true; the input reads as it did. -/
def trueupNothingUptoRow : OpenClaim := { program := "ytbpagnnfieipcaa", sum := "c6ea5552ac735bf5bbfd5def460ab2d6ce590b51706b9070c6b9e18272cc47e5", func := "scutage/scutagelaw22.TrueupNothing", spec := "trueupNothing", apart := false, narrowed := true }
def TrueupNothingUptoSaid : Prop := trueupNothingUptoRow.holds Try.pinned (OpenSpec.upto trueupNothingSpec)

/-- 'scutagelaw22.TrueupRises', WHERE WHAT IT READS IS OF BULK AT MOST 1048576: true; the input reads as it did. -/
def trueupRisesUptoRow : OpenClaim := { program := "ytbpagnnfieipcaa", sum := "c6ea5552ac735bf5bbfd5def460ab2d6ce590b51706b9070c6b9e18272cc47e5", func := "scutage/scutagelaw22.TrueupRises", spec := "trueupRises", apart := false, narrowed := true }
def TrueupRisesUptoSaid : Prop := trueupRisesUptoRow.holds Try.pinned (OpenSpec.upto trueupRisesSpec)

/-- 'scutagelaw04.SidesGreat', WHERE WHAT IT READS IS OF BULK AT MOST 1048576: true; the input reads as it did. -/
def sidesGreatUptoRow : OpenClaim := { program := "ytbpagnnfieipcaa", sum := "c6ea5552ac735bf5bbfd5def460ab2d6ce590b51706b9070c6b9e18272cc47e5", func := "scutage/scutagelaw04.SidesGreat", spec := "sidesGreat", apart := false, narrowed := true }
def SidesGreatUptoSaid : Prop := sidesGreatUptoRow.holds Try.pinned (OpenSpec.upto sidesGreatSpec)

/-- 'scutagelaw04.SidesMeet', WHERE WHAT IT READS IS OF BULK AT MOST 1048576: true; the input reads as it did. -/
def sidesMeetUptoRow : OpenClaim := { program := "ytbpagnnfieipcaa", sum := "c6ea5552ac735bf5bbfd5def460ab2d6ce590b51706b9070c6b9e18272cc47e5", func := "scutage/scutagelaw04.SidesMeet", spec := "sidesMeet", apart := false, narrowed := true }
def SidesMeetUptoSaid : Prop := sidesMeetUptoRow.holds Try.pinned (OpenSpec.upto sidesMeetSpec)

/-- 'scutagelaw04.SidesTell', WHERE WHAT IT READS IS OF BULK AT MOST 1048576: true; the input reads as it did. -/
def sidesTellUptoRow : OpenClaim := { program := "ytbpagnnfieipcaa", sum := "c6ea5552ac735bf5bbfd5def460ab2d6ce590b51706b9070c6b9e18272cc47e5", func := "scutage/scutagelaw04.SidesTell", spec := "sidesTell", apart := false, narrowed := true }
def SidesTellUptoSaid : Prop := sidesTellUptoRow.holds Try.pinned (OpenSpec.upto sidesTellSpec)

/-- 'scutagelaw04.SidesTurn', WHERE WHAT IT READS IS OF BULK AT MOST 1048576: true; the input reads as it did. -/
def sidesTurnUptoRow : OpenClaim := { program := "ytbpagnnfieipcaa", sum := "c6ea5552ac735bf5bbfd5def460ab2d6ce590b51706b9070c6b9e18272cc47e5", func := "scutage/scutagelaw04.SidesTurn", spec := "sidesTurn", apart := false, narrowed := true }
def SidesTurnUptoSaid : Prop := sidesTurnUptoRow.holds Try.pinned (OpenSpec.upto sidesTurnSpec)

end Rows
end Go.Proofs.Ytbpagnnfieipcaa
