/-
  DERIVED. GIVEN WITH THE SEED: THE CARDS: each row of YtejoijjmlglhfaaDoorRows.lean that lists a variable, with what it lists TIED to the program's text (the seventh form; the later family's looks); each row that meets fmt, with fmt's text TOLD by the authors' own Lean function (tested against real Go, not proved from fmt's source: count such statements apart). THE CARD IS WHAT COUNTS. Prove the row's statement (the work); the ties are given (YtejoijjmlglhfaaDoorTie.lean); close each card by the builder's one call (the guide's Derived/Test/ToyasCard.lean, 'card_holds'). Laid BY PROGRAM, IN A SANDBOX (cutbox-door.mjs). By AI agents, Wed Nov 11 2026. No macro, syntax, notation, axiom, sorry.
-/
import Derived.Test.YtejoijjmlglhfaaDoorRows
import GoSem.ClaimSeven
namespace Go.Proofs.YtejoijjmlglhfaaDoor
namespace Rows

/-- THE TIED CARD OF 'scutagelaw03.PeriodOrder'. -/
def periodOrderCard : Claim7 := { stood := { row := periodOrderRow, standIns := [], harness := (true, "b9b66941b363e390665ffe7ee054ef248e10b611718d5023d2587c5b081d1328"), looks := false }, kinds := [], alts := [], laidByText := true, laidKinds := [.data, .data, .data], laidTests := true, laidLooks := .later }
def PeriodOrderCardSaid : Prop := Claim7.holds Tryd.pinned (.plain (OpenSpec.ofChange periodOrderSpec)) periodOrderCard

/-- THE TIED CARD OF 'scutagelaw03.PeriodYears'. -/
def periodYearsCard : Claim7 := { stood := { row := periodYearsRow, standIns := [], harness := (true, "b9b66941b363e390665ffe7ee054ef248e10b611718d5023d2587c5b081d1328"), looks := false }, kinds := [], alts := [], laidByText := true, laidKinds := [.data, .data, .data], laidTests := true, laidLooks := .later }
def PeriodYearsCardSaid : Prop := Claim7.holds Tryd.pinned (.plain (OpenSpec.ofChange periodYearsSpec)) periodYearsCard

/-- THE TIED CARD OF 'scutagelaw03.PeriodBack'. -/
def periodBackCard : Claim7 := { stood := { row := periodBackRow, standIns := [], harness := (true, "b9b66941b363e390665ffe7ee054ef248e10b611718d5023d2587c5b081d1328"), looks := false }, kinds := [], alts := [], laidByText := true, laidKinds := [.data, .data, .data], laidTests := true, laidLooks := .later }
def PeriodBackCardSaid : Prop := Claim7.holds Tryd.pinned (.plain (OpenSpec.ofChange periodBackSpec)) periodBackCard

/-- THE TIED CARD OF 'scutagelaw03.PeriodTells'. -/
def periodTellsCard : Claim7 := { stood := { row := periodTellsRow, standIns := [], harness := (true, "b9b66941b363e390665ffe7ee054ef248e10b611718d5023d2587c5b081d1328"), looks := false }, kinds := [], alts := [], laidByText := true, laidKinds := [.data, .data, .data], laidTests := true, laidLooks := .later }
def PeriodTellsCardSaid : Prop := Claim7.holds Tryd.pinned (.plain (OpenSpec.ofChange periodTellsSpec)) periodTellsCard

/-- THE SECOND FORM's CARD OF 'scutagelaw03.PeriodOrder'. -/
def periodOrderUptoCard : Claim7 := { stood := { row := periodOrderUptoRow, standIns := [], harness := (true, "b9b66941b363e390665ffe7ee054ef248e10b611718d5023d2587c5b081d1328"), looks := false }, kinds := [], alts := [], laidByText := true, laidKinds := [.data, .data, .data], laidTests := true, laidLooks := .later }
def PeriodOrderUptoCardSaid : Prop := Claim7.holds Tryd.pinned (.plain (OpenSpec.upto periodOrderSpec)) periodOrderUptoCard

/-- THE SECOND FORM's CARD OF 'scutagelaw03.PeriodYears'. -/
def periodYearsUptoCard : Claim7 := { stood := { row := periodYearsUptoRow, standIns := [], harness := (true, "b9b66941b363e390665ffe7ee054ef248e10b611718d5023d2587c5b081d1328"), looks := false }, kinds := [], alts := [], laidByText := true, laidKinds := [.data, .data, .data], laidTests := true, laidLooks := .later }
def PeriodYearsUptoCardSaid : Prop := Claim7.holds Tryd.pinned (.plain (OpenSpec.upto periodYearsSpec)) periodYearsUptoCard

/-- THE SECOND FORM's CARD OF 'scutagelaw03.PeriodBack'. -/
def periodBackUptoCard : Claim7 := { stood := { row := periodBackUptoRow, standIns := [], harness := (true, "b9b66941b363e390665ffe7ee054ef248e10b611718d5023d2587c5b081d1328"), looks := false }, kinds := [], alts := [], laidByText := true, laidKinds := [.data, .data, .data], laidTests := true, laidLooks := .later }
def PeriodBackUptoCardSaid : Prop := Claim7.holds Tryd.pinned (.plain (OpenSpec.upto periodBackSpec)) periodBackUptoCard

/-- THE SECOND FORM's CARD OF 'scutagelaw03.PeriodTells'. -/
def periodTellsUptoCard : Claim7 := { stood := { row := periodTellsUptoRow, standIns := [], harness := (true, "b9b66941b363e390665ffe7ee054ef248e10b611718d5023d2587c5b081d1328"), looks := false }, kinds := [], alts := [], laidByText := true, laidKinds := [.data, .data, .data], laidTests := true, laidLooks := .later }
def PeriodTellsUptoCardSaid : Prop := Claim7.holds Tryd.pinned (.plain (OpenSpec.upto periodTellsSpec)) periodTellsUptoCard
end Rows
end Go.Proofs.YtejoijjmlglhfaaDoor
