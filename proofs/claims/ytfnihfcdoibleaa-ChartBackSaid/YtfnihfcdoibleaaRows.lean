/-
  No cell of these rows narrows 'for every input' (looked for: loops, veiled, ifaces, maps, wideKeys, modest, calm, conditions, laid).
  DERIVED. THE GIVEN ROWS OF THIS SEAT. 12 by the template 'for every input the law returns true; each argument reads behind the call as it read before'; 0 by the template 'total and deterministic' (their statements: YtfnihfcdoibleaaTotals.lean).
  GIVEN WITH THE SEED: the statements are not yours to turn. If you find one false, say at which input.
  Laid BY PROGRAM, IN A SANDBOX (cutbox-rows.mjs): the forced cells as the released guide's own fill.sh prints them over the translation 3dafe81e8fec17b4… (all of the seat's roots in one cut). By AI agents, Wed Nov 11 2026. No macro, syntax, notation, axiom, sorry.
-/
import Derived.Test.YtfnihfcdoibleaaChecked
import GoSem.Claim
import GoSem.ClaimJoined
import GoSem.ClaimMapViews
import Derived.JoinedTies
import Derived.KernelRfl
namespace Go.Proofs.Ytfnihfcdoibleaa
/- THE CELL 'sum', in the pinned program and in every row, IS THE sha256 OF THE DUMP (.gsa) THAT YtfnihfcdoibleaaProg.lean LOADS. Nothing in Lean hashes anything: it is a label: what it is worth is what the hold of that sum in a sandbox is worth. -/
noncomputable def Try.pinned : Pinned := { name := "ytfnihfcdoibleaa", sum := "3dafe81e8fec17b453e2ea311ad7ac54ce8aa80a75feaf9d1470839a7d6f37c1", checked := Try.checked }
namespace Rows
def none {H : Type} : Left H := { results := [], args := [] }

/-- 'scutagelaw14.UseOnly': WHATEVER THE INPUT: true; the input reads as it did. -/
def useOnlySpec : ChangeSpec := { name := "useOnly", fn := fun _ => fun
  | [d1, d2, d3, d4] => { results := [.lit (.bool true)], args := [d1, d2, d3, d4] }
  | _ => none }
def useOnlyRow : OpenClaim := { program := "ytfnihfcdoibleaa", sum := "3dafe81e8fec17b453e2ea311ad7ac54ce8aa80a75feaf9d1470839a7d6f37c1", func := "scutage/scutagelaw14.UseOnly", spec := "useOnly", apart := false }
def UseOnlySaid : Prop := useOnlyRow.holds Try.pinned (OpenSpec.ofChange useOnlySpec)

/-- ITS FALSE NEIGHBOUR: 'it returns false'. Refute it at one input. -/
def useOnlyWrong : ChangeSpec := { name := "useOnly", fn := fun _ => fun
  | [d1, d2, d3, d4] => { results := [.lit (.bool false)], args := [d1, d2, d3, d4] }
  | _ => none }
def UseOnlyWrongFalsely : Prop := useOnlyRow.holds Try.pinned (OpenSpec.ofChange useOnlyWrong)

/-- 'scutagelaw14.UseRoom': WHATEVER THE INPUT: true; the input reads as it did. -/
def useRoomSpec : ChangeSpec := { name := "useRoom", fn := fun _ => fun
  | [d1, d2] => { results := [.lit (.bool true)], args := [d1, d2] }
  | _ => none }
def useRoomRow : OpenClaim := { program := "ytfnihfcdoibleaa", sum := "3dafe81e8fec17b453e2ea311ad7ac54ce8aa80a75feaf9d1470839a7d6f37c1", func := "scutage/scutagelaw14.UseRoom", spec := "useRoom", apart := false }
def UseRoomSaid : Prop := useRoomRow.holds Try.pinned (OpenSpec.ofChange useRoomSpec)

/-- ITS FALSE NEIGHBOUR: 'it returns false'. Refute it at one input. -/
def useRoomWrong : ChangeSpec := { name := "useRoom", fn := fun _ => fun
  | [d1, d2] => { results := [.lit (.bool false)], args := [d1, d2] }
  | _ => none }
def UseRoomWrongFalsely : Prop := useRoomRow.holds Try.pinned (OpenSpec.ofChange useRoomWrong)

/-- 'scutagelaw14.UseMore': WHATEVER THE INPUT: true; the input reads as it did. -/
def useMoreSpec : ChangeSpec := { name := "useMore", fn := fun _ => fun
  | [d1, d2, d3, d4] => { results := [.lit (.bool true)], args := [d1, d2, d3, d4] }
  | _ => none }
def useMoreRow : OpenClaim := { program := "ytfnihfcdoibleaa", sum := "3dafe81e8fec17b453e2ea311ad7ac54ce8aa80a75feaf9d1470839a7d6f37c1", func := "scutage/scutagelaw14.UseMore", spec := "useMore", apart := false }
def UseMoreSaid : Prop := useMoreRow.holds Try.pinned (OpenSpec.ofChange useMoreSpec)

/-- ITS FALSE NEIGHBOUR: 'it returns false'. Refute it at one input. -/
def useMoreWrong : ChangeSpec := { name := "useMore", fn := fun _ => fun
  | [d1, d2, d3, d4] => { results := [.lit (.bool false)], args := [d1, d2, d3, d4] }
  | _ => none }
def UseMoreWrongFalsely : Prop := useMoreRow.holds Try.pinned (OpenSpec.ofChange useMoreWrong)

/-- 'scutagelaw14.UseTwice': WHATEVER THE INPUT: true; the input reads as it did. -/
def useTwiceSpec : ChangeSpec := { name := "useTwice", fn := fun _ => fun
  | [d1, d2, d3, d4] => { results := [.lit (.bool true)], args := [d1, d2, d3, d4] }
  | _ => none }
def useTwiceRow : OpenClaim := { program := "ytfnihfcdoibleaa", sum := "3dafe81e8fec17b453e2ea311ad7ac54ce8aa80a75feaf9d1470839a7d6f37c1", func := "scutage/scutagelaw14.UseTwice", spec := "useTwice", apart := false }
def UseTwiceSaid : Prop := useTwiceRow.holds Try.pinned (OpenSpec.ofChange useTwiceSpec)

/-- ITS FALSE NEIGHBOUR: 'it returns false'. Refute it at one input. -/
def useTwiceWrong : ChangeSpec := { name := "useTwice", fn := fun _ => fun
  | [d1, d2, d3, d4] => { results := [.lit (.bool false)], args := [d1, d2, d3, d4] }
  | _ => none }
def UseTwiceWrongFalsely : Prop := useTwiceRow.holds Try.pinned (OpenSpec.ofChange useTwiceWrong)

/-- 'scutagelaw14.UseTells': WHATEVER THE INPUT: true; the input reads as it did. -/
def useTellsSpec : ChangeSpec := { name := "useTells", fn := fun _ => fun
  | [d1, d2, d3, d4, d5, d6] => { results := [.lit (.bool true)], args := [d1, d2, d3, d4, d5, d6] }
  | _ => none }
def useTellsRow : OpenClaim := { program := "ytfnihfcdoibleaa", sum := "3dafe81e8fec17b453e2ea311ad7ac54ce8aa80a75feaf9d1470839a7d6f37c1", func := "scutage/scutagelaw14.UseTells", spec := "useTells", apart := false }
def UseTellsSaid : Prop := useTellsRow.holds Try.pinned (OpenSpec.ofChange useTellsSpec)

/-- ITS FALSE NEIGHBOUR: 'it returns false'. Refute it at one input. -/
def useTellsWrong : ChangeSpec := { name := "useTells", fn := fun _ => fun
  | [d1, d2, d3, d4, d5, d6] => { results := [.lit (.bool false)], args := [d1, d2, d3, d4, d5, d6] }
  | _ => none }
def UseTellsWrongFalsely : Prop := useTellsRow.holds Try.pinned (OpenSpec.ofChange useTellsWrong)

/-- 'scutagelaw16.MeasureSums': WHATEVER THE INPUT: true; the input reads as it did. -/
def measureSumsSpec : ChangeSpec := { name := "measureSums", fn := fun _ => fun
  | [d1, d2] => { results := [.lit (.bool true)], args := [d1, d2] }
  | _ => none }
def measureSumsRow : OpenClaim := { program := "ytfnihfcdoibleaa", sum := "3dafe81e8fec17b453e2ea311ad7ac54ce8aa80a75feaf9d1470839a7d6f37c1", func := "scutage/scutagelaw16.MeasureSums", spec := "measureSums", apart := false }
def MeasureSumsSaid : Prop := measureSumsRow.holds Try.pinned (OpenSpec.ofChange measureSumsSpec)

/-- ITS FALSE NEIGHBOUR: 'it returns false'. Refute it at one input. -/
def measureSumsWrong : ChangeSpec := { name := "measureSums", fn := fun _ => fun
  | [d1, d2] => { results := [.lit (.bool false)], args := [d1, d2] }
  | _ => none }
def MeasureSumsWrongFalsely : Prop := measureSumsRow.holds Try.pinned (OpenSpec.ofChange measureSumsWrong)

/-- 'scutagelaw16.MeasureNear': WHATEVER THE INPUT: true; the input reads as it did. -/
def measureNearSpec : ChangeSpec := { name := "measureNear", fn := fun _ => fun
  | [d1, d2] => { results := [.lit (.bool true)], args := [d1, d2] }
  | _ => none }
def measureNearRow : OpenClaim := { program := "ytfnihfcdoibleaa", sum := "3dafe81e8fec17b453e2ea311ad7ac54ce8aa80a75feaf9d1470839a7d6f37c1", func := "scutage/scutagelaw16.MeasureNear", spec := "measureNear", apart := false }
def MeasureNearSaid : Prop := measureNearRow.holds Try.pinned (OpenSpec.ofChange measureNearSpec)

/-- ITS FALSE NEIGHBOUR: 'it returns false'. Refute it at one input. -/
def measureNearWrong : ChangeSpec := { name := "measureNear", fn := fun _ => fun
  | [d1, d2] => { results := [.lit (.bool false)], args := [d1, d2] }
  | _ => none }
def MeasureNearWrongFalsely : Prop := measureNearRow.holds Try.pinned (OpenSpec.ofChange measureNearWrong)

/-- 'scutagelaw16.MeasureErrors': WHATEVER THE INPUT: true; the input reads as it did. -/
def measureErrorsSpec : ChangeSpec := { name := "measureErrors", fn := fun _ => fun
  | [d] => { results := [.lit (.bool true)], args := [d] }
  | _ => none }
def measureErrorsRow : OpenClaim := { program := "ytfnihfcdoibleaa", sum := "3dafe81e8fec17b453e2ea311ad7ac54ce8aa80a75feaf9d1470839a7d6f37c1", func := "scutage/scutagelaw16.MeasureErrors", spec := "measureErrors", unfollowed := true, recurses := true, apart := false }
def MeasureErrorsSaid : Prop := measureErrorsRow.holds Try.pinned (OpenSpec.ofChange measureErrorsSpec)

/-- ITS FALSE NEIGHBOUR: 'it returns false'. Refute it at one input. -/
def measureErrorsWrong : ChangeSpec := { name := "measureErrors", fn := fun _ => fun
  | [d] => { results := [.lit (.bool false)], args := [d] }
  | _ => none }
def MeasureErrorsWrongFalsely : Prop := measureErrorsRow.holds Try.pinned (OpenSpec.ofChange measureErrorsWrong)

/-- 'scutagelaw16.MeasureKnown': WHATEVER THE INPUT: true; the input reads as it did. -/
def measureKnownSpec : ChangeSpec := { name := "measureKnown", fn := fun _ => fun
  | [d1, d2, d3] => { results := [.lit (.bool true)], args := [d1, d2, d3] }
  | _ => none }
def measureKnownRow : OpenClaim := { program := "ytfnihfcdoibleaa", sum := "3dafe81e8fec17b453e2ea311ad7ac54ce8aa80a75feaf9d1470839a7d6f37c1", func := "scutage/scutagelaw16.MeasureKnown", spec := "measureKnown", unfollowed := true, recurses := true, apart := false }
def MeasureKnownSaid : Prop := measureKnownRow.holds Try.pinned (OpenSpec.ofChange measureKnownSpec)

/-- ITS FALSE NEIGHBOUR: 'it returns false'. Refute it at one input. -/
def measureKnownWrong : ChangeSpec := { name := "measureKnown", fn := fun _ => fun
  | [d1, d2, d3] => { results := [.lit (.bool false)], args := [d1, d2, d3] }
  | _ => none }
def MeasureKnownWrongFalsely : Prop := measureKnownRow.holds Try.pinned (OpenSpec.ofChange measureKnownWrong)

/-- 'scutagelaw16.MeasureTells': WHATEVER THE INPUT: true; the input reads as it did. -/
def measureTellsSpec : ChangeSpec := { name := "measureTells", fn := fun _ => fun
  | [d1, d2, d3, d4, d5, d6, d7] => { results := [.lit (.bool true)], args := [d1, d2, d3, d4, d5, d6, d7] }
  | _ => none }
def measureTellsRow : OpenClaim := { program := "ytfnihfcdoibleaa", sum := "3dafe81e8fec17b453e2ea311ad7ac54ce8aa80a75feaf9d1470839a7d6f37c1", func := "scutage/scutagelaw16.MeasureTells", spec := "measureTells", unfollowed := true, recurses := true, apart := false }
def MeasureTellsSaid : Prop := measureTellsRow.holds Try.pinned (OpenSpec.ofChange measureTellsSpec)

/-- ITS FALSE NEIGHBOUR: 'it returns false'. Refute it at one input. -/
def measureTellsWrong : ChangeSpec := { name := "measureTells", fn := fun _ => fun
  | [d1, d2, d3, d4, d5, d6, d7] => { results := [.lit (.bool false)], args := [d1, d2, d3, d4, d5, d6, d7] }
  | _ => none }
def MeasureTellsWrongFalsely : Prop := measureTellsRow.holds Try.pinned (OpenSpec.ofChange measureTellsWrong)

/-- 'scutagelaw05.ChartBack': WHATEVER THE INPUT: true; the input reads as it did. -/
def chartBackSpec : ChangeSpec := { name := "chartBack", fn := fun _ => fun
  | [d1, d2] => { results := [.lit (.bool true)], args := [d1, d2] }
  | _ => none }
def chartBackRow : OpenClaim := { program := "ytfnihfcdoibleaa", sum := "3dafe81e8fec17b453e2ea311ad7ac54ce8aa80a75feaf9d1470839a7d6f37c1", func := "scutage/scutagelaw05.ChartBack", spec := "chartBack", apart := false }
def ChartBackSaid : Prop := chartBackRow.holds Try.pinned (OpenSpec.ofChange chartBackSpec)

/-- ITS FALSE NEIGHBOUR: 'it returns false'. Refute it at one input. -/
def chartBackWrong : ChangeSpec := { name := "chartBack", fn := fun _ => fun
  | [d1, d2] => { results := [.lit (.bool false)], args := [d1, d2] }
  | _ => none }
def ChartBackWrongFalsely : Prop := chartBackRow.holds Try.pinned (OpenSpec.ofChange chartBackWrong)

/-- 'scutagelaw05.ChartTells': WHATEVER THE INPUT: true; the input reads as it did. -/
def chartTellsSpec : ChangeSpec := { name := "chartTells", fn := fun _ => fun
  | [d1, d2, d3, d4] => { results := [.lit (.bool true)], args := [d1, d2, d3, d4] }
  | _ => none }
def chartTellsRow : OpenClaim := { program := "ytfnihfcdoibleaa", sum := "3dafe81e8fec17b453e2ea311ad7ac54ce8aa80a75feaf9d1470839a7d6f37c1", func := "scutage/scutagelaw05.ChartTells", spec := "chartTells", apart := false }
def ChartTellsSaid : Prop := chartTellsRow.holds Try.pinned (OpenSpec.ofChange chartTellsSpec)

/-- ITS FALSE NEIGHBOUR: 'it returns false'. Refute it at one input. -/
def chartTellsWrong : ChangeSpec := { name := "chartTells", fn := fun _ => fun
  | [d1, d2, d3, d4] => { results := [.lit (.bool false)], args := [d1, d2, d3, d4] }
  | _ => none }
def ChartTellsWrongFalsely : Prop := chartTellsRow.holds Try.pinned (OpenSpec.ofChange chartTellsWrong)

/- THE SECOND FORM. 'bulk': how many values and letters a reading holds, each counted each time it is reached (what is shared counts as often as it is met; a slice's spare places count too). A statement '..UptoSaid' is the law's where the arguments, and the package variables that the reading takes, are together of bulk at most 1048576: NARROWER than '..Said'. Prove '..Said' where nothing that the law and all that it calls make is longer than what came in: it says more and counts as full. Else prove '..UptoSaid'. A law counts once. -/
mutual
def uptoBulk {H : Type} : DataW H → Nat
  | .lit (.string bytes) => bytes.length + 1
  | .lit _ => 1
  | .nil => 1
  | .ptr d => uptoBulk d + 1
  | .slice elems spare => uptoBulkAll elems + uptoBulkAll spare + 1
  | .agg parts => uptoBulkAll parts + 1
  | .iface _ d => uptoBulk d + 1
  | .map entries => uptoBulkEntries entries + 1
  | .held _ => 1
def uptoBulkAll {H : Type} : List (DataW H) → Nat
  | [] => 0
  | d :: r => uptoBulk d + uptoBulkAll r
def uptoBulkEntries {H : Type} : List (Lit × DataW H) → Nat
  | [] => 0
  | x :: r => uptoBulkEntry x + uptoBulkEntries r
def uptoBulkEntry {H : Type} : Lit × DataW H → Nat
  | (.string bytes, d) => bytes.length + uptoBulk d + 1
  | (_, d) => uptoBulk d + 1
 end
def uptoSmall : (H : Type) → List (DataW H) → Bool := fun _ ds => decide (uptoBulkAll ds ≤ 1048576)
def OpenSpec.upto (s : _root_.Go.ChangeSpec) : _root_.Go.OpenSpec := { _root_.Go.OpenSpec.ofChange s with cond := some uptoSmall }

/-- 'scutagelaw14.UseOnly', WHERE WHAT IT READS IS OF BULK AT MOST 1048576: true; the input reads as it did. -/
def useOnlyUptoRow : OpenClaim := { program := "ytfnihfcdoibleaa", sum := "3dafe81e8fec17b453e2ea311ad7ac54ce8aa80a75feaf9d1470839a7d6f37c1", func := "scutage/scutagelaw14.UseOnly", spec := "useOnly", apart := false, narrowed := true }
def UseOnlyUptoSaid : Prop := useOnlyUptoRow.holds Try.pinned (OpenSpec.upto useOnlySpec)

/-- 'scutagelaw14.UseRoom', WHERE WHAT IT READS IS OF BULK AT MOST 1048576: true; the input reads as it did. -/
def useRoomUptoRow : OpenClaim := { program := "ytfnihfcdoibleaa", sum := "3dafe81e8fec17b453e2ea311ad7ac54ce8aa80a75feaf9d1470839a7d6f37c1", func := "scutage/scutagelaw14.UseRoom", spec := "useRoom", apart := false, narrowed := true }
def UseRoomUptoSaid : Prop := useRoomUptoRow.holds Try.pinned (OpenSpec.upto useRoomSpec)

/-- 'scutagelaw14.UseMore', WHERE WHAT IT READS IS OF BULK AT MOST 1048576: true; the input reads as it did. -/
def useMoreUptoRow : OpenClaim := { program := "ytfnihfcdoibleaa", sum := "3dafe81e8fec17b453e2ea311ad7ac54ce8aa80a75feaf9d1470839a7d6f37c1", func := "scutage/scutagelaw14.UseMore", spec := "useMore", apart := false, narrowed := true }
def UseMoreUptoSaid : Prop := useMoreUptoRow.holds Try.pinned (OpenSpec.upto useMoreSpec)

/-- 'scutagelaw14.UseTwice', WHERE WHAT IT READS IS OF BULK AT MOST 1048576: true; the input reads as it did. -/
def useTwiceUptoRow : OpenClaim := { program := "ytfnihfcdoibleaa", sum := "3dafe81e8fec17b453e2ea311ad7ac54ce8aa80a75feaf9d1470839a7d6f37c1", func := "scutage/scutagelaw14.UseTwice", spec := "useTwice", apart := false, narrowed := true }
def UseTwiceUptoSaid : Prop := useTwiceUptoRow.holds Try.pinned (OpenSpec.upto useTwiceSpec)

/-- 'scutagelaw14.UseTells', WHERE WHAT IT READS IS OF BULK AT MOST 1048576: true; the input reads as it did. -/
def useTellsUptoRow : OpenClaim := { program := "ytfnihfcdoibleaa", sum := "3dafe81e8fec17b453e2ea311ad7ac54ce8aa80a75feaf9d1470839a7d6f37c1", func := "scutage/scutagelaw14.UseTells", spec := "useTells", apart := false, narrowed := true }
def UseTellsUptoSaid : Prop := useTellsUptoRow.holds Try.pinned (OpenSpec.upto useTellsSpec)

/-- 'scutagelaw16.MeasureSums', WHERE WHAT IT READS IS OF BULK AT MOST 1048576: true; the input reads as it did. -/
def measureSumsUptoRow : OpenClaim := { program := "ytfnihfcdoibleaa", sum := "3dafe81e8fec17b453e2ea311ad7ac54ce8aa80a75feaf9d1470839a7d6f37c1", func := "scutage/scutagelaw16.MeasureSums", spec := "measureSums", apart := false, narrowed := true }
def MeasureSumsUptoSaid : Prop := measureSumsUptoRow.holds Try.pinned (OpenSpec.upto measureSumsSpec)

/-- 'scutagelaw16.MeasureNear', WHERE WHAT IT READS IS OF BULK AT MOST 1048576: true; the input reads as it did. -/
def measureNearUptoRow : OpenClaim := { program := "ytfnihfcdoibleaa", sum := "3dafe81e8fec17b453e2ea311ad7ac54ce8aa80a75feaf9d1470839a7d6f37c1", func := "scutage/scutagelaw16.MeasureNear", spec := "measureNear", apart := false, narrowed := true }
def MeasureNearUptoSaid : Prop := measureNearUptoRow.holds Try.pinned (OpenSpec.upto measureNearSpec)

/-- 'scutagelaw16.MeasureErrors', WHERE WHAT IT READS IS OF BULK AT MOST 1048576: true; the input reads as it did. -/
def measureErrorsUptoRow : OpenClaim := { program := "ytfnihfcdoibleaa", sum := "3dafe81e8fec17b453e2ea311ad7ac54ce8aa80a75feaf9d1470839a7d6f37c1", func := "scutage/scutagelaw16.MeasureErrors", spec := "measureErrors", unfollowed := true, recurses := true, apart := false, narrowed := true }
def MeasureErrorsUptoSaid : Prop := measureErrorsUptoRow.holds Try.pinned (OpenSpec.upto measureErrorsSpec)

/-- 'scutagelaw16.MeasureKnown', WHERE WHAT IT READS IS OF BULK AT MOST 1048576: true; the input reads as it did. -/
def measureKnownUptoRow : OpenClaim := { program := "ytfnihfcdoibleaa", sum := "3dafe81e8fec17b453e2ea311ad7ac54ce8aa80a75feaf9d1470839a7d6f37c1", func := "scutage/scutagelaw16.MeasureKnown", spec := "measureKnown", unfollowed := true, recurses := true, apart := false, narrowed := true }
def MeasureKnownUptoSaid : Prop := measureKnownUptoRow.holds Try.pinned (OpenSpec.upto measureKnownSpec)

/-- 'scutagelaw16.MeasureTells', WHERE WHAT IT READS IS OF BULK AT MOST 1048576: true; the input reads as it did. -/
def measureTellsUptoRow : OpenClaim := { program := "ytfnihfcdoibleaa", sum := "3dafe81e8fec17b453e2ea311ad7ac54ce8aa80a75feaf9d1470839a7d6f37c1", func := "scutage/scutagelaw16.MeasureTells", spec := "measureTells", unfollowed := true, recurses := true, apart := false, narrowed := true }
def MeasureTellsUptoSaid : Prop := measureTellsUptoRow.holds Try.pinned (OpenSpec.upto measureTellsSpec)

/-- 'scutagelaw05.ChartBack', WHERE WHAT IT READS IS OF BULK AT MOST 1048576: true; the input reads as it did. -/
def chartBackUptoRow : OpenClaim := { program := "ytfnihfcdoibleaa", sum := "3dafe81e8fec17b453e2ea311ad7ac54ce8aa80a75feaf9d1470839a7d6f37c1", func := "scutage/scutagelaw05.ChartBack", spec := "chartBack", apart := false, narrowed := true }
def ChartBackUptoSaid : Prop := chartBackUptoRow.holds Try.pinned (OpenSpec.upto chartBackSpec)

/-- 'scutagelaw05.ChartTells', WHERE WHAT IT READS IS OF BULK AT MOST 1048576: true; the input reads as it did. -/
def chartTellsUptoRow : OpenClaim := { program := "ytfnihfcdoibleaa", sum := "3dafe81e8fec17b453e2ea311ad7ac54ce8aa80a75feaf9d1470839a7d6f37c1", func := "scutage/scutagelaw05.ChartTells", spec := "chartTells", apart := false, narrowed := true }
def ChartTellsUptoSaid : Prop := chartTellsUptoRow.holds Try.pinned (OpenSpec.upto chartTellsSpec)

end Rows
end Go.Proofs.Ytfnihfcdoibleaa
