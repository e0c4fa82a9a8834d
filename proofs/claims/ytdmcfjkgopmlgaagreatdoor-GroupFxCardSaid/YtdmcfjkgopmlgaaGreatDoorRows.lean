/-
  NARROWER THAN 'FOR EVERY INPUT', by the rows' own cells (each row's printed sentence says how): GroupAsset: laid · GroupFx: laid · GroupCopies: laid · GroupErrors: laid.
  DERIVED. THE GIVEN ROWS OF THIS SEAT. 4 by the template 'for every input the law returns true; each argument reads behind the call as it read before'; 0 by the template 'total and deterministic' (their statements: YtdmcfjkgopmlgaaGreatDoorTotals.lean).
  GIVEN WITH THE SEED: the statements are not yours to turn. If you find one false, say at which input.
  Laid BY PROGRAM, IN A SANDBOX (cutbox-rows.mjs): the forced cells as the released guide's own fill.sh prints them over the translation 69569c9aef112306… (all of the seat's roots in one cut). By AI agents, Wed Nov 11 2026. No macro, syntax, notation, axiom, sorry.
-/
import Derived.Test.YtdmcfjkgopmlgaaGreatDoorChecked
import GoSem.PinnedTables
import GoSem.Claim
import GoSem.ClaimJoined
import GoSem.ClaimMapViews
import Derived.JoinedTies
import Derived.KernelRfl
namespace Go.Proofs.YtdmcfjkgopmlgaaGreatDoor
/- THE CELL 'sum', in the pinned program and in every row, IS THE sha256 OF THE DUMP (.gsa) THAT YtdmcfjkgopmlgaaGreatDoorProg.lean LOADS. Nothing in Lean hashes anything: it is a label: what it is worth is what the hold of that sum in a sandbox is worth. -/
noncomputable def Tryz.pinned : Pinned := { name := "ytdmcfjkgopmlgaagreatdoor", sum := "69569c9aef1123064adc131224e18c2573839b46397f3b35cecec4168b243dca", checked := Tryz.checked }
namespace Rows
def none {H : Type} : Left H := { results := [], args := [] }

/- WHAT THE LISTED PACKAGE-LEVEL VARIABLES READ AS WHEN THE CALL BEGINS. Each datum BY PROGRAM (the guide's laid-datum.mjs) off the statement by which the dump's own 'gosem.cut.vars' lays the variable. In a bare row this is a premise. The card (YtdmcfjkgopmlgaaGreatDoorCards.lean) ties it to the program's text. -/
def laid_unicode_utf8_acceptRanges {H : Type} : DataW H := .agg [.agg [.lit (.int .u8 128), .lit (.int .u8 191)], .agg [.lit (.int .u8 160), .lit (.int .u8 191)], .agg [.lit (.int .u8 128), .lit (.int .u8 159)], .agg [.lit (.int .u8 144), .lit (.int .u8 191)], .agg [.lit (.int .u8 128), .lit (.int .u8 143)], .agg [.lit (.int .u8 0), .lit (.int .u8 0)], .agg [.lit (.int .u8 0), .lit (.int .u8 0)], .agg [.lit (.int .u8 0), .lit (.int .u8 0)], .agg [.lit (.int .u8 0), .lit (.int .u8 0)], .agg [.lit (.int .u8 0), .lit (.int .u8 0)], .agg [.lit (.int .u8 0), .lit (.int .u8 0)], .agg [.lit (.int .u8 0), .lit (.int .u8 0)], .agg [.lit (.int .u8 0), .lit (.int .u8 0)], .agg [.lit (.int .u8 0), .lit (.int .u8 0)], .agg [.lit (.int .u8 0), .lit (.int .u8 0)], .agg [.lit (.int .u8 0), .lit (.int .u8 0)]]
/-- One of Go's own tables, pinned by name: the form's constant. -/
def laid_unicode_utf8_first : DataW Unit := Go.Pinned.utf8First

/-- 'scutagelaw26.GroupAsset': WHATEVER THE INPUT: true; the input reads as it did. -/
def groupAssetSpec : ChangeSpec := { name := "groupAsset", fn := fun _ => fun
  | [d1, d2, d3] => { results := [.lit (.bool true)], args := [d1, d2, d3] }
  | _ => none }
def groupAssetRow : OpenClaim := { program := "ytdmcfjkgopmlgaagreatdoor", sum := "69569c9aef1123064adc131224e18c2573839b46397f3b35cecec4168b243dca", func := "scutage/scutagelaw26.GroupAsset", spec := "groupAsset", inPlace := ["internal/bytealg.IndexByteString", "internal/bytealg.IndexString", "internal/bytealg.abigen_runtime_cmpstring"], unfollowed := true, recurses := true, named := ["internal/bytealg.MaxLen", "unicode/utf8.first", "unicode/utf8.acceptRanges"], apart := false, laid := [("unicode/utf8.acceptRanges", laid_unicode_utf8_acceptRanges), ("unicode/utf8.first", laid_unicode_utf8_first)] }
def GroupAssetSaid : Prop := groupAssetRow.holds Tryz.pinned (OpenSpec.ofChange groupAssetSpec)

/-- ITS FALSE NEIGHBOUR: 'it returns false'. Refute it at one input. -/
def groupAssetWrong : ChangeSpec := { name := "groupAsset", fn := fun _ => fun
  | [d1, d2, d3] => { results := [.lit (.bool false)], args := [d1, d2, d3] }
  | _ => none }
def GroupAssetWrongFalsely : Prop := groupAssetRow.holds Tryz.pinned (OpenSpec.ofChange groupAssetWrong)

/-- 'scutagelaw26.GroupFx': WHATEVER THE INPUT: true; the input reads as it did. -/
def groupFxSpec : ChangeSpec := { name := "groupFx", fn := fun _ => fun
  | [d1, d2, d3, d4] => { results := [.lit (.bool true)], args := [d1, d2, d3, d4] }
  | _ => none }
def groupFxRow : OpenClaim := { program := "ytdmcfjkgopmlgaagreatdoor", sum := "69569c9aef1123064adc131224e18c2573839b46397f3b35cecec4168b243dca", func := "scutage/scutagelaw26.GroupFx", spec := "groupFx", inPlace := ["internal/bytealg.IndexByteString", "internal/bytealg.IndexString", "internal/bytealg.abigen_runtime_cmpstring"], unfollowed := true, recurses := true, named := ["internal/bytealg.MaxLen", "unicode/utf8.first", "unicode/utf8.acceptRanges"], apart := false, laid := [("unicode/utf8.acceptRanges", laid_unicode_utf8_acceptRanges), ("unicode/utf8.first", laid_unicode_utf8_first)] }
def GroupFxSaid : Prop := groupFxRow.holds Tryz.pinned (OpenSpec.ofChange groupFxSpec)

/-- ITS FALSE NEIGHBOUR: 'it returns false'. Refute it at one input. -/
def groupFxWrong : ChangeSpec := { name := "groupFx", fn := fun _ => fun
  | [d1, d2, d3, d4] => { results := [.lit (.bool false)], args := [d1, d2, d3, d4] }
  | _ => none }
def GroupFxWrongFalsely : Prop := groupFxRow.holds Tryz.pinned (OpenSpec.ofChange groupFxWrong)

/-- 'scutagelaw26.GroupCopies': WHATEVER THE INPUT: true; the input reads as it did. -/
def groupCopiesSpec : ChangeSpec := { name := "groupCopies", fn := fun _ => fun
  | [d1, d2] => { results := [.lit (.bool true)], args := [d1, d2] }
  | _ => none }
def groupCopiesRow : OpenClaim := { program := "ytdmcfjkgopmlgaagreatdoor", sum := "69569c9aef1123064adc131224e18c2573839b46397f3b35cecec4168b243dca", func := "scutage/scutagelaw26.GroupCopies", spec := "groupCopies", inPlace := ["internal/bytealg.IndexByteString", "internal/bytealg.IndexString", "internal/bytealg.abigen_runtime_cmpstring"], unfollowed := true, recurses := true, named := ["internal/bytealg.MaxLen", "unicode/utf8.first", "unicode/utf8.acceptRanges"], apart := false, laid := [("unicode/utf8.acceptRanges", laid_unicode_utf8_acceptRanges), ("unicode/utf8.first", laid_unicode_utf8_first)] }
def GroupCopiesSaid : Prop := groupCopiesRow.holds Tryz.pinned (OpenSpec.ofChange groupCopiesSpec)

/-- ITS FALSE NEIGHBOUR: 'it returns false'. Refute it at one input. -/
def groupCopiesWrong : ChangeSpec := { name := "groupCopies", fn := fun _ => fun
  | [d1, d2] => { results := [.lit (.bool false)], args := [d1, d2] }
  | _ => none }
def GroupCopiesWrongFalsely : Prop := groupCopiesRow.holds Tryz.pinned (OpenSpec.ofChange groupCopiesWrong)

/-- 'scutagelaw26.GroupErrors': WHATEVER THE INPUT: true; the input reads as it did. -/
def groupErrorsSpec : ChangeSpec := { name := "groupErrors", fn := fun _ => fun
  | [d] => { results := [.lit (.bool true)], args := [d] }
  | _ => none }
def groupErrorsRow : OpenClaim := { program := "ytdmcfjkgopmlgaagreatdoor", sum := "69569c9aef1123064adc131224e18c2573839b46397f3b35cecec4168b243dca", func := "scutage/scutagelaw26.GroupErrors", spec := "groupErrors", inPlace := ["internal/bytealg.IndexByteString", "internal/bytealg.IndexString", "internal/bytealg.abigen_runtime_cmpstring"], unfollowed := true, recurses := true, named := ["internal/bytealg.MaxLen", "unicode/utf8.first", "unicode/utf8.acceptRanges"], apart := false, laid := [("unicode/utf8.acceptRanges", laid_unicode_utf8_acceptRanges), ("unicode/utf8.first", laid_unicode_utf8_first)] }
def GroupErrorsSaid : Prop := groupErrorsRow.holds Tryz.pinned (OpenSpec.ofChange groupErrorsSpec)

/-- ITS FALSE NEIGHBOUR: 'it returns false'. Refute it at one input. -/
def groupErrorsWrong : ChangeSpec := { name := "groupErrors", fn := fun _ => fun
  | [d] => { results := [.lit (.bool false)], args := [d] }
  | _ => none }
def GroupErrorsWrongFalsely : Prop := groupErrorsRow.holds Tryz.pinned (OpenSpec.ofChange groupErrorsWrong)

/- THE SECOND FORM. 'bulk': how many values and letters a reading holds, each counted each time it is reached (what is shared counts as often as it is met; a slice's spare places count too). A statement '..UptoSaid' is the law's where the arguments, and the package variables that the reading takes, are together of bulk at most 1048576: NARROWER than '..Said'. Prove '..Said' where nothing that the law and all that it calls make is longer than what came in: it says more and counts as full. Else prove '..UptoSaid'. A law counts once. -/
mutual
def uptoBulk {H : Type} : DataW H → Nat
  | .lit (.string bytes) => bytes.length + 1
  | .lit _ => 1
  | .nil => 1
  | .ptr d => uptoBulk d + 1
  | .slice elems spare => uptoBulkAll elems + uptoBulkAll spare + 1
  | .agg parts => uptoBulkAll parts + 1
  | .iface _ d => uptoBulk d + 1
  | .map entries => uptoBulkEntries entries + 1
  | .held _ => 1
def uptoBulkAll {H : Type} : List (DataW H) → Nat
  | [] => 0
  | d :: r => uptoBulk d + uptoBulkAll r
def uptoBulkEntries {H : Type} : List (Lit × DataW H) → Nat
  | [] => 0
  | x :: r => uptoBulkEntry x + uptoBulkEntries r
def uptoBulkEntry {H : Type} : Lit × DataW H → Nat
  | (.string bytes, d) => bytes.length + uptoBulk d + 1
  | (_, d) => uptoBulk d + 1
 end
def uptoSmall : (H : Type) → List (DataW H) → Bool := fun _ ds => decide (uptoBulkAll ds ≤ 1048576)
def OpenSpec.upto (s : _root_.Go.ChangeSpec) : _root_.Go.OpenSpec := { _root_.Go.OpenSpec.ofChange s with cond := some uptoSmall }

/-- 'scutagelaw26.GroupAsset', WHERE WHAT IT READS IS OF BULK AT MOST 1048576: true; the input reads as it did. -/
def groupAssetUptoRow : OpenClaim := { program := "ytdmcfjkgopmlgaagreatdoor", sum := "69569c9aef1123064adc131224e18c2573839b46397f3b35cecec4168b243dca", func := "scutage/scutagelaw26.GroupAsset", spec := "groupAsset", inPlace := ["internal/bytealg.IndexByteString", "internal/bytealg.IndexString", "internal/bytealg.abigen_runtime_cmpstring"], unfollowed := true, recurses := true, named := ["internal/bytealg.MaxLen", "unicode/utf8.first", "unicode/utf8.acceptRanges"], apart := false, laid := [("unicode/utf8.acceptRanges", laid_unicode_utf8_acceptRanges), ("unicode/utf8.first", laid_unicode_utf8_first)], narrowed := true }
def GroupAssetUptoSaid : Prop := groupAssetUptoRow.holds Tryz.pinned (OpenSpec.upto groupAssetSpec)

/-- 'scutagelaw26.GroupFx', WHERE WHAT IT READS IS OF BULK AT MOST 1048576: true; the input reads as it did. -/
def groupFxUptoRow : OpenClaim := { program := "ytdmcfjkgopmlgaagreatdoor", sum := "69569c9aef1123064adc131224e18c2573839b46397f3b35cecec4168b243dca", func := "scutage/scutagelaw26.GroupFx", spec := "groupFx", inPlace := ["internal/bytealg.IndexByteString", "internal/bytealg.IndexString", "internal/bytealg.abigen_runtime_cmpstring"], unfollowed := true, recurses := true, named := ["internal/bytealg.MaxLen", "unicode/utf8.first", "unicode/utf8.acceptRanges"], apart := false, laid := [("unicode/utf8.acceptRanges", laid_unicode_utf8_acceptRanges), ("unicode/utf8.first", laid_unicode_utf8_first)], narrowed := true }
def GroupFxUptoSaid : Prop := groupFxUptoRow.holds Tryz.pinned (OpenSpec.upto groupFxSpec)

/-- 'scutagelaw26.GroupCopies', WHERE WHAT IT READS IS OF BULK AT MOST 1048576: true; the input reads as it did. -/
def groupCopiesUptoRow : OpenClaim := { program := "ytdmcfjkgopmlgaagreatdoor", sum := "69569c9aef1123064adc131224e18c2573839b46397f3b35cecec4168b243dca", func := "scutage/scutagelaw26.GroupCopies", spec := "groupCopies", inPlace := ["internal/bytealg.IndexByteString", "internal/bytealg.IndexString", "internal/bytealg.abigen_runtime_cmpstring"], unfollowed := true, recurses := true, named := ["internal/bytealg.MaxLen", "unicode/utf8.first", "unicode/utf8.acceptRanges"], apart := false, laid := [("unicode/utf8.acceptRanges", laid_unicode_utf8_acceptRanges), ("unicode/utf8.first", laid_unicode_utf8_first)], narrowed := true }
def GroupCopiesUptoSaid : Prop := groupCopiesUptoRow.holds Tryz.pinned (OpenSpec.upto groupCopiesSpec)

/-- 'scutagelaw26.GroupErrors', WHERE WHAT IT READS IS OF BULK AT MOST 1048576: true; the input reads as it did. -/
def groupErrorsUptoRow : OpenClaim := { program := "ytdmcfjkgopmlgaagreatdoor", sum := "69569c9aef1123064adc131224e18c2573839b46397f3b35cecec4168b243dca", func := "scutage/scutagelaw26.GroupErrors", spec := "groupErrors", inPlace := ["internal/bytealg.IndexByteString", "internal/bytealg.IndexString", "internal/bytealg.abigen_runtime_cmpstring"], unfollowed := true, recurses := true, named := ["internal/bytealg.MaxLen", "unicode/utf8.first", "unicode/utf8.acceptRanges"], apart := false, laid := [("unicode/utf8.acceptRanges", laid_unicode_utf8_acceptRanges), ("unicode/utf8.first", laid_unicode_utf8_first)], narrowed := true }
def GroupErrorsUptoSaid : Prop := groupErrorsUptoRow.holds Tryz.pinned (OpenSpec.upto groupErrorsSpec)

end Rows
end Go.Proofs.YtdmcfjkgopmlgaaGreatDoor
