/-
  No cell of these rows narrows 'for every input' (looked for: loops, veiled, ifaces, maps, wideKeys, modest, calm, conditions, laid).
  DERIVED. THE GIVEN ROWS OF THIS SEAT. 10 by the template 'for every input the law returns true; each argument reads behind the call as it read before'; 0 by the template 'total and deterministic' (their statements: YtalelfjjigfpeaaTotals.lean).
  GIVEN WITH THE SEED: the statements are not yours to turn. If you find one false, say at which input.
  Laid BY PROGRAM, IN A SANDBOX (cutbox-rows.mjs): the forced cells as the released guide's own fill.sh prints them over the translation 710c187f8b001e6a… (all of the seat's roots in one cut). By AI agents, Wed Nov 11 2026. No macro, syntax, notation, axiom, sorry.
-/
import Derived.Test.YtalelfjjigfpeaaChecked
import GoSem.Claim
import GoSem.ClaimJoined
import GoSem.ClaimMapViews
import Derived.JoinedTies
import Derived.KernelRfl
namespace Go.Proofs.Ytalelfjjigfpeaa
/- THE CELL 'sum', in the pinned program and in every row, IS THE sha256 OF THE DUMP (.gsa) THAT YtalelfjjigfpeaaProg.lean LOADS. Nothing in Lean hashes anything: it is a label: what it is worth is what the hold of that sum in a sandbox is worth. -/
noncomputable def Try.pinned : Pinned := { name := "ytalelfjjigfpeaa", sum := "710c187f8b001e6a4f513e3f6d9c3a49a8a6492ba27e2e8fc3214044e70b6828", checked := Try.checked }
namespace Rows
def none {H : Type} : Left H := { results := [], args := [] }

/-- 'scutagelaw01.RateRises': WHATEVER THE INPUT: true; the input reads as it did. -/
def rateRisesSpec : ChangeSpec := { name := "rateRises", fn := fun _ => fun
  | [d1, d2, d3, d4] => { results := [.lit (.bool true)], args := [d1, d2, d3, d4] }
  | _ => none }
def rateRisesRow : OpenClaim := { program := "ytalelfjjigfpeaa", sum := "710c187f8b001e6a4f513e3f6d9c3a49a8a6492ba27e2e8fc3214044e70b6828", func := "scutage/scutagelaw01.RateRises", spec := "rateRises", apart := false }
def RateRisesSaid : Prop := rateRisesRow.holds Try.pinned (OpenSpec.ofChange rateRisesSpec)

/-- ITS FALSE NEIGHBOUR: 'it returns false'. Refute it at one input. -/
def rateRisesWrong : ChangeSpec := { name := "rateRises", fn := fun _ => fun
  | [d1, d2, d3, d4] => { results := [.lit (.bool false)], args := [d1, d2, d3, d4] }
  | _ => none }
def RateRisesWrongFalsely : Prop := rateRisesRow.holds Try.pinned (OpenSpec.ofChange rateRisesWrong)

/-- 'scutagelaw01.RateRounds': WHATEVER THE INPUT: true; the input reads as it did. -/
def rateRoundsSpec : ChangeSpec := { name := "rateRounds", fn := fun _ => fun
  | [d1, d2] => { results := [.lit (.bool true)], args := [d1, d2] }
  | _ => none }
def rateRoundsRow : OpenClaim := { program := "ytalelfjjigfpeaa", sum := "710c187f8b001e6a4f513e3f6d9c3a49a8a6492ba27e2e8fc3214044e70b6828", func := "scutage/scutagelaw01.RateRounds", spec := "rateRounds", apart := false }
def RateRoundsSaid : Prop := rateRoundsRow.holds Try.pinned (OpenSpec.ofChange rateRoundsSpec)

/-- ITS FALSE NEIGHBOUR: 'it returns false'. Refute it at one input. -/
def rateRoundsWrong : ChangeSpec := { name := "rateRounds", fn := fun _ => fun
  | [d1, d2] => { results := [.lit (.bool false)], args := [d1, d2] }
  | _ => none }
def RateRoundsWrongFalsely : Prop := rateRoundsRow.holds Try.pinned (OpenSpec.ofChange rateRoundsWrong)

/-- 'scutagelaw01.RateEdges': WHATEVER THE INPUT: true; the input reads as it did. -/
def rateEdgesSpec : ChangeSpec := { name := "rateEdges", fn := fun _ => fun
  | [d1, d2] => { results := [.lit (.bool true)], args := [d1, d2] }
  | _ => none }
def rateEdgesRow : OpenClaim := { program := "ytalelfjjigfpeaa", sum := "710c187f8b001e6a4f513e3f6d9c3a49a8a6492ba27e2e8fc3214044e70b6828", func := "scutage/scutagelaw01.RateEdges", spec := "rateEdges", apart := false }
def RateEdgesSaid : Prop := rateEdgesRow.holds Try.pinned (OpenSpec.ofChange rateEdgesSpec)

/-- ITS FALSE NEIGHBOUR: 'it returns false'. Refute it at one input. -/
def rateEdgesWrong : ChangeSpec := { name := "rateEdges", fn := fun _ => fun
  | [d1, d2] => { results := [.lit (.bool false)], args := [d1, d2] }
  | _ => none }
def RateEdgesWrongFalsely : Prop := rateEdgesRow.holds Try.pinned (OpenSpec.ofChange rateEdgesWrong)

/-- 'scutagelaw01.RateFloors': WHATEVER THE INPUT: true; the input reads as it did. -/
def rateFloorsSpec : ChangeSpec := { name := "rateFloors", fn := fun _ => fun
  | [d1, d2] => { results := [.lit (.bool true)], args := [d1, d2] }
  | _ => none }
def rateFloorsRow : OpenClaim := { program := "ytalelfjjigfpeaa", sum := "710c187f8b001e6a4f513e3f6d9c3a49a8a6492ba27e2e8fc3214044e70b6828", func := "scutage/scutagelaw01.RateFloors", spec := "rateFloors", apart := false }
def RateFloorsSaid : Prop := rateFloorsRow.holds Try.pinned (OpenSpec.ofChange rateFloorsSpec)

/-- ITS FALSE NEIGHBOUR: 'it returns false'. Refute it at one input. -/
def rateFloorsWrong : ChangeSpec := { name := "rateFloors", fn := fun _ => fun
  | [d1, d2] => { results := [.lit (.bool false)], args := [d1, d2] }
  | _ => none }
def RateFloorsWrongFalsely : Prop := rateFloorsRow.holds Try.pinned (OpenSpec.ofChange rateFloorsWrong)

/-- 'scutagelaw01.RateSums': WHATEVER THE INPUT: true; the input reads as it did. -/
def rateSumsSpec : ChangeSpec := { name := "rateSums", fn := fun _ => fun
  | [d1, d2] => { results := [.lit (.bool true)], args := [d1, d2] }
  | _ => none }
def rateSumsRow : OpenClaim := { program := "ytalelfjjigfpeaa", sum := "710c187f8b001e6a4f513e3f6d9c3a49a8a6492ba27e2e8fc3214044e70b6828", func := "scutage/scutagelaw01.RateSums", spec := "rateSums", apart := false }
def RateSumsSaid : Prop := rateSumsRow.holds Try.pinned (OpenSpec.ofChange rateSumsSpec)

/-- ITS FALSE NEIGHBOUR: 'it returns false'. Refute it at one input. -/
def rateSumsWrong : ChangeSpec := { name := "rateSums", fn := fun _ => fun
  | [d1, d2] => { results := [.lit (.bool false)], args := [d1, d2] }
  | _ => none }
def RateSumsWrongFalsely : Prop := rateSumsRow.holds Try.pinned (OpenSpec.ofChange rateSumsWrong)

/-- 'scutagelaw01.RateLeast': WHATEVER THE INPUT: true; the input reads as it did. -/
def rateLeastSpec : ChangeSpec := { name := "rateLeast", fn := fun _ => fun
  | [d1, d2] => { results := [.lit (.bool true)], args := [d1, d2] }
  | _ => none }
def rateLeastRow : OpenClaim := { program := "ytalelfjjigfpeaa", sum := "710c187f8b001e6a4f513e3f6d9c3a49a8a6492ba27e2e8fc3214044e70b6828", func := "scutage/scutagelaw01.RateLeast", spec := "rateLeast", apart := false }
def RateLeastSaid : Prop := rateLeastRow.holds Try.pinned (OpenSpec.ofChange rateLeastSpec)

/-- ITS FALSE NEIGHBOUR: 'it returns false'. Refute it at one input. -/
def rateLeastWrong : ChangeSpec := { name := "rateLeast", fn := fun _ => fun
  | [d1, d2] => { results := [.lit (.bool false)], args := [d1, d2] }
  | _ => none }
def RateLeastWrongFalsely : Prop := rateLeastRow.holds Try.pinned (OpenSpec.ofChange rateLeastWrong)

/-- 'scutagelaw01.RateTells': WHATEVER THE INPUT: true; the input reads as it did. -/
def rateTellsSpec : ChangeSpec := { name := "rateTells", fn := fun _ => fun
  | [d1, d2, d3, d4] => { results := [.lit (.bool true)], args := [d1, d2, d3, d4] }
  | _ => none }
def rateTellsRow : OpenClaim := { program := "ytalelfjjigfpeaa", sum := "710c187f8b001e6a4f513e3f6d9c3a49a8a6492ba27e2e8fc3214044e70b6828", func := "scutage/scutagelaw01.RateTells", spec := "rateTells", recurses := true, apart := false }
def RateTellsSaid : Prop := rateTellsRow.holds Try.pinned (OpenSpec.ofChange rateTellsSpec)

/-- ITS FALSE NEIGHBOUR: 'it returns false'. Refute it at one input. -/
def rateTellsWrong : ChangeSpec := { name := "rateTells", fn := fun _ => fun
  | [d1, d2, d3, d4] => { results := [.lit (.bool false)], args := [d1, d2, d3, d4] }
  | _ => none }
def RateTellsWrongFalsely : Prop := rateTellsRow.holds Try.pinned (OpenSpec.ofChange rateTellsWrong)

/-- 'scutagelaw12.BridgeEdges': WHATEVER THE INPUT: true; the input reads as it did. -/
def bridgeEdgesSpec : ChangeSpec := { name := "bridgeEdges", fn := fun _ => fun
  | [d] => { results := [.lit (.bool true)], args := [d] }
  | _ => none }
def bridgeEdgesRow : OpenClaim := { program := "ytalelfjjigfpeaa", sum := "710c187f8b001e6a4f513e3f6d9c3a49a8a6492ba27e2e8fc3214044e70b6828", func := "scutage/scutagelaw12.BridgeEdges", spec := "bridgeEdges", apart := false }
def BridgeEdgesSaid : Prop := bridgeEdgesRow.holds Try.pinned (OpenSpec.ofChange bridgeEdgesSpec)

/-- ITS FALSE NEIGHBOUR: 'it returns false'. Refute it at one input. -/
def bridgeEdgesWrong : ChangeSpec := { name := "bridgeEdges", fn := fun _ => fun
  | [d] => { results := [.lit (.bool false)], args := [d] }
  | _ => none }
def BridgeEdgesWrongFalsely : Prop := bridgeEdgesRow.holds Try.pinned (OpenSpec.ofChange bridgeEdgesWrong)

/-- 'scutagelaw12.BridgeSums': WHATEVER THE INPUT: true; the input reads as it did. -/
def bridgeSumsSpec : ChangeSpec := { name := "bridgeSums", fn := fun _ => fun
  | [d1, d2, d3, d4] => { results := [.lit (.bool true)], args := [d1, d2, d3, d4] }
  | _ => none }
def bridgeSumsRow : OpenClaim := { program := "ytalelfjjigfpeaa", sum := "710c187f8b001e6a4f513e3f6d9c3a49a8a6492ba27e2e8fc3214044e70b6828", func := "scutage/scutagelaw12.BridgeSums", spec := "bridgeSums", apart := false }
def BridgeSumsSaid : Prop := bridgeSumsRow.holds Try.pinned (OpenSpec.ofChange bridgeSumsSpec)

/-- ITS FALSE NEIGHBOUR: 'it returns false'. Refute it at one input. -/
def bridgeSumsWrong : ChangeSpec := { name := "bridgeSums", fn := fun _ => fun
  | [d1, d2, d3, d4] => { results := [.lit (.bool false)], args := [d1, d2, d3, d4] }
  | _ => none }
def BridgeSumsWrongFalsely : Prop := bridgeSumsRow.holds Try.pinned (OpenSpec.ofChange bridgeSumsWrong)

/-- 'scutagelaw12.BridgeTells': WHATEVER THE INPUT: true; the input reads as it did. -/
def bridgeTellsSpec : ChangeSpec := { name := "bridgeTells", fn := fun _ => fun
  | [d1, d2, d3] => { results := [.lit (.bool true)], args := [d1, d2, d3] }
  | _ => none }
def bridgeTellsRow : OpenClaim := { program := "ytalelfjjigfpeaa", sum := "710c187f8b001e6a4f513e3f6d9c3a49a8a6492ba27e2e8fc3214044e70b6828", func := "scutage/scutagelaw12.BridgeTells", spec := "bridgeTells", apart := false }
def BridgeTellsSaid : Prop := bridgeTellsRow.holds Try.pinned (OpenSpec.ofChange bridgeTellsSpec)

/-- ITS FALSE NEIGHBOUR: 'it returns false'. Refute it at one input. -/
def bridgeTellsWrong : ChangeSpec := { name := "bridgeTells", fn := fun _ => fun
  | [d1, d2, d3] => { results := [.lit (.bool false)], args := [d1, d2, d3] }
  | _ => none }
def BridgeTellsWrongFalsely : Prop := bridgeTellsRow.holds Try.pinned (OpenSpec.ofChange bridgeTellsWrong)

/- THE SECOND FORM. 'bulk': how many values and letters a reading holds, each counted each time it is reached (what is shared counts as often as it is met; a slice's spare places count too). A statement '..UptoSaid' is the law's where the arguments, and the package variables that the reading takes, are together of bulk at most 1048576: NARROWER than '..Said'. Prove '..Said' where nothing that the law and all that it calls make is longer than what came in: it says more and counts as full. Else prove '..UptoSaid'. A law counts once. -/
mutual
def uptoBulk {H : Type} : DataW H → Nat
  | .lit (.string bytes) => bytes.length + 1
  | .lit _ => 1
  | .nil => 1
  | .ptr d => uptoBulk d + 1
  | .slice elems spare => uptoBulkAll elems + uptoBulkAll spare + 1
  | .agg parts => uptoBulkAll parts + 1
  | .iface _ d => uptoBulk d + 1
  | .map entries => uptoBulkEntries entries + 1
  | .held _ => 1
def uptoBulkAll {H : Type} : List (DataW H) → Nat
  | [] => 0
  | d :: r => uptoBulk d + uptoBulkAll r
def uptoBulkEntries {H : Type} : List (Lit × DataW H) → Nat
  | [] => 0
  | x :: r => uptoBulkEntry x + uptoBulkEntries r
def uptoBulkEntry {H : Type} : Lit × DataW H → Nat
  | (.string bytes, d) => bytes.length + uptoBulk d + 1
  | (_, d) => uptoBulk d + 1
 end
def uptoSmall : (H : Type) → List (DataW H) → Bool := fun _ ds => decide (uptoBulkAll ds ≤ 1048576)
def OpenSpec.upto (s : _root_.Go.ChangeSpec) : _root_.Go.OpenSpec := { _root_.Go.OpenSpec.ofChange s with cond := some uptoSmall }

/-- 'scutagelaw01.RateRises', WHERE WHAT IT READS IS OF BULK AT MOST 1048576: true; the input reads as it did. -/
def rateRisesUptoRow : OpenClaim := { program := "ytalelfjjigfpeaa", sum := "710c187f8b001e6a4f513e3f6d9c3a49a8a6492ba27e2e8fc3214044e70b6828", func := "scutage/scutagelaw01.RateRises", spec := "rateRises", apart := false, narrowed := true }
def RateRisesUptoSaid : Prop := rateRisesUptoRow.holds Try.pinned (OpenSpec.upto rateRisesSpec)

/-- 'scutagelaw01.RateRounds', WHERE WHAT IT READS IS OF BULK AT MOST 1048576: true; the input reads as it did. -/
def rateRoundsUptoRow : OpenClaim := { program := "ytalelfjjigfpeaa", sum := "710c187f8b001e6a4f513e3f6d9c3a49a8a6492ba27e2e8fc3214044e70b6828", func := "scutage/scutagelaw01.RateRounds", spec := "rateRounds", apart := false, narrowed := true }
def RateRoundsUptoSaid : Prop := rateRoundsUptoRow.holds Try.pinned (OpenSpec.upto rateRoundsSpec)

/-- 'scutagelaw01.RateEdges', WHERE WHAT IT READS IS OF BULK AT MOST 1048576: true; the input reads as it did. -/
def rateEdgesUptoRow : OpenClaim := { program := "ytalelfjjigfpeaa", sum := "710c187f8b001e6a4f513e3f6d9c3a49a8a6492ba27e2e8fc3214044e70b6828", func := "scutage/scutagelaw01.RateEdges", spec := "rateEdges", apart := false, narrowed := true }
def RateEdgesUptoSaid : Prop := rateEdgesUptoRow.holds Try.pinned (OpenSpec.upto rateEdgesSpec)

/-- 'scutagelaw01.RateFloors', WHERE WHAT IT READS IS OF BULK AT MOST 1048576: true; the input reads as it did. -/
def rateFloorsUptoRow : OpenClaim := { program := "ytalelfjjigfpeaa", sum := "710c187f8b001e6a4f513e3f6d9c3a49a8a6492ba27e2e8fc3214044e70b6828", func := "scutage/scutagelaw01.RateFloors", spec := "rateFloors", apart := false, narrowed := true }
def RateFloorsUptoSaid : Prop := rateFloorsUptoRow.holds Try.pinned (OpenSpec.upto rateFloorsSpec)

/-- 'scutagelaw01.RateSums', WHERE WHAT IT READS IS OF BULK AT MOST 1048576: true; the input reads as it did. -/
def rateSumsUptoRow : OpenClaim := { program := "ytalelfjjigfpeaa", sum := "710c187f8b001e6a4f513e3f6d9c3a49a8a6492ba27e2e8fc3214044e70b6828", func := "scutage/scutagelaw01.RateSums", spec := "rateSums", apart := false, narrowed := true }
def RateSumsUptoSaid : Prop := rateSumsUptoRow.holds Try.pinned (OpenSpec.upto rateSumsSpec)

/-- 'scutagelaw01.RateLeast', WHERE WHAT IT READS IS OF BULK AT MOST 1048576: true; the input reads as it did. -/
def rateLeastUptoRow : OpenClaim := { program := "ytalelfjjigfpeaa", sum := "710c187f8b001e6a4f513e3f6d9c3a49a8a6492ba27e2e8fc3214044e70b6828", func := "scutage/scutagelaw01.RateLeast", spec := "rateLeast", apart := false, narrowed := true }
def RateLeastUptoSaid : Prop := rateLeastUptoRow.holds Try.pinned (OpenSpec.upto rateLeastSpec)

/-- 'scutagelaw01.RateTells', WHERE WHAT IT READS IS OF BULK AT MOST 1048576: true; the input reads as it did. -/
def rateTellsUptoRow : OpenClaim := { program := "ytalelfjjigfpeaa", sum := "710c187f8b001e6a4f513e3f6d9c3a49a8a6492ba27e2e8fc3214044e70b6828", func := "scutage/scutagelaw01.RateTells", spec := "rateTells", recurses := true, apart := false, narrowed := true }
def RateTellsUptoSaid : Prop := rateTellsUptoRow.holds Try.pinned (OpenSpec.upto rateTellsSpec)

/-- 'scutagelaw12.BridgeEdges', WHERE WHAT IT READS IS OF BULK AT MOST 1048576: true; the input reads as it did. -/
def bridgeEdgesUptoRow : OpenClaim := { program := "ytalelfjjigfpeaa", sum := "710c187f8b001e6a4f513e3f6d9c3a49a8a6492ba27e2e8fc3214044e70b6828", func := "scutage/scutagelaw12.BridgeEdges", spec := "bridgeEdges", apart := false, narrowed := true }
def BridgeEdgesUptoSaid : Prop := bridgeEdgesUptoRow.holds Try.pinned (OpenSpec.upto bridgeEdgesSpec)

/-- 'scutagelaw12.BridgeSums', WHERE WHAT IT READS IS OF BULK AT MOST 1048576: true; the input reads as it did. -/
def bridgeSumsUptoRow : OpenClaim := { program := "ytalelfjjigfpeaa", sum := "710c187f8b001e6a4f513e3f6d9c3a49a8a6492ba27e2e8fc3214044e70b6828", func := "scutage/scutagelaw12.BridgeSums", spec := "bridgeSums", apart := false, narrowed := true }
def BridgeSumsUptoSaid : Prop := bridgeSumsUptoRow.holds Try.pinned (OpenSpec.upto bridgeSumsSpec)

/-- 'scutagelaw12.BridgeTells', WHERE WHAT IT READS IS OF BULK AT MOST 1048576: true; the input reads as it did. -/
def bridgeTellsUptoRow : OpenClaim := { program := "ytalelfjjigfpeaa", sum := "710c187f8b001e6a4f513e3f6d9c3a49a8a6492ba27e2e8fc3214044e70b6828", func := "scutage/scutagelaw12.BridgeTells", spec := "bridgeTells", apart := false, narrowed := true }
def BridgeTellsUptoSaid : Prop := bridgeTellsUptoRow.holds Try.pinned (OpenSpec.upto bridgeTellsSpec)

end Rows
end Go.Proofs.Ytalelfjjigfpeaa
