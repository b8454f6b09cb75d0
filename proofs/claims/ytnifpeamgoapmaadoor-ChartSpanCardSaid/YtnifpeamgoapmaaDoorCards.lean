/-
  DERIVED. GIVEN WITH THE SEED: THE CARDS: each row of YtnifpeamgoapmaaDoorRows.lean that lists a variable, with what it lists TIED to the program's text (the seventh form; the later family's looks); each row that meets fmt, with fmt's text TOLD by the authors' own Lean function (tested against real Go, not proved from fmt's source: count such statements apart). THE CARD IS WHAT COUNTS. Prove the row's statement (the work); the ties are given (YtnifpeamgoapmaaDoorTie.lean); close each card by the builder's one call (the guide's Derived/Test/ToyasCard.lean, 'card_holds'). Laid BY PROGRAM, IN A SANDBOX (cutbox-door.mjs). By AI agents, Wed Nov 11 2026. No macro, syntax, notation, axiom, sorry.
-/
import Derived.Test.YtnifpeamgoapmaaDoorRows
import GoSem.ClaimSeven
namespace Go.Proofs.YtnifpeamgoapmaaDoor
namespace Rows

/-- THE TIED CARD OF 'emendatelaw40.ChartBuild'. -/
def chartBuildCard : Claim7 := { stood := { row := chartBuildRow, standIns := [], harness := (true, "3edffa7ddbf4c6c7340821fc0498788574e0e83568b2d06c10561794a3588673"), looks := false }, kinds := [], alts := [], laidByText := true, laidKinds := [.data], laidTests := true, laidLooks := .later }
def ChartBuildCardSaid : Prop := Claim7.holds Tryd.pinned (.plain (OpenSpec.ofChange chartBuildSpec)) chartBuildCard

/-- THE TIED CARD OF 'emendatelaw40.ChartKnuth'. -/
def chartKnuthCard : Claim7 := { stood := { row := chartKnuthRow, standIns := [], harness := (true, "3edffa7ddbf4c6c7340821fc0498788574e0e83568b2d06c10561794a3588673"), looks := false }, kinds := [], alts := [], laidByText := true, laidKinds := [.data], laidTests := true, laidLooks := .later }
def ChartKnuthCardSaid : Prop := Claim7.holds Tryd.pinned (.plain (OpenSpec.ofChange chartKnuthSpec)) chartKnuthCard

/-- THE TIED CARD OF 'emendatelaw40.ChartFixed'. -/
def chartFixedCard : Claim7 := { stood := { row := chartFixedRow, standIns := [], harness := (true, "3edffa7ddbf4c6c7340821fc0498788574e0e83568b2d06c10561794a3588673"), looks := false }, kinds := [], alts := [], laidByText := true, laidKinds := [.data], laidTests := true, laidLooks := .later }
def ChartFixedCardSaid : Prop := Claim7.holds Tryd.pinned (.plain (OpenSpec.ofChange chartFixedSpec)) chartFixedCard

/-- THE TIED CARD OF 'emendatelaw40.ChartSpan'. -/
def chartSpanCard : Claim7 := { stood := { row := chartSpanRow, standIns := [], harness := (true, "3edffa7ddbf4c6c7340821fc0498788574e0e83568b2d06c10561794a3588673"), looks := false }, kinds := [], alts := [], laidByText := true, laidKinds := [.data], laidTests := true, laidLooks := .later }
def ChartSpanCardSaid : Prop := Claim7.holds Tryd.pinned (.plain (OpenSpec.ofChange chartSpanSpec)) chartSpanCard

/-- THE TIED CARD OF 'emendatelaw40.ChartGoal'. -/
def chartGoalCard : Claim7 := { stood := { row := chartGoalRow, standIns := [], harness := (true, "3edffa7ddbf4c6c7340821fc0498788574e0e83568b2d06c10561794a3588673"), looks := false }, kinds := [], alts := [], laidByText := true, laidKinds := [.data], laidTests := true, laidLooks := .later }
def ChartGoalCardSaid : Prop := Claim7.holds Tryd.pinned (.plain (OpenSpec.ofChange chartGoalSpec)) chartGoalCard

/-- THE TIED CARD OF 'emendatelaw40.ChartAt'. -/
def chartAtCard : Claim7 := { stood := { row := chartAtRow, standIns := [], harness := (true, "3edffa7ddbf4c6c7340821fc0498788574e0e83568b2d06c10561794a3588673"), looks := false }, kinds := [], alts := [], laidByText := true, laidKinds := [.data], laidTests := true, laidLooks := .later }
def ChartAtCardSaid : Prop := Claim7.holds Tryd.pinned (.plain (OpenSpec.ofChange chartAtSpec)) chartAtCard

/-- THE TIED CARD OF 'emendatelaw40.ChartMonotone'. -/
def chartMonotoneCard : Claim7 := { stood := { row := chartMonotoneRow, standIns := [], harness := (true, "3edffa7ddbf4c6c7340821fc0498788574e0e83568b2d06c10561794a3588673"), looks := false }, kinds := [], alts := [], laidByText := true, laidKinds := [.data], laidTests := true, laidLooks := .later }
def ChartMonotoneCardSaid : Prop := Claim7.holds Tryd.pinned (.plain (OpenSpec.ofChange chartMonotoneSpec)) chartMonotoneCard

/-- THE TIED CARD OF 'emendatelaw40.ChartLocal'. -/
def chartLocalCard : Claim7 := { stood := { row := chartLocalRow, standIns := [], harness := (true, "3edffa7ddbf4c6c7340821fc0498788574e0e83568b2d06c10561794a3588673"), looks := false }, kinds := [], alts := [], laidByText := true, laidKinds := [.data], laidTests := true, laidLooks := .later }
def ChartLocalCardSaid : Prop := Claim7.holds Tryd.pinned (.plain (OpenSpec.ofChange chartLocalSpec)) chartLocalCard

/-- THE SECOND FORM's CARD OF 'emendatelaw40.ChartBuild'. -/
def chartBuildUptoCard : Claim7 := { stood := { row := chartBuildUptoRow, standIns := [], harness := (true, "3edffa7ddbf4c6c7340821fc0498788574e0e83568b2d06c10561794a3588673"), looks := false }, kinds := [], alts := [], laidByText := true, laidKinds := [.data], laidTests := true, laidLooks := .later }
def ChartBuildUptoCardSaid : Prop := Claim7.holds Tryd.pinned (.plain (OpenSpec.upto chartBuildSpec)) chartBuildUptoCard

/-- THE SECOND FORM's CARD OF 'emendatelaw40.ChartKnuth'. -/
def chartKnuthUptoCard : Claim7 := { stood := { row := chartKnuthUptoRow, standIns := [], harness := (true, "3edffa7ddbf4c6c7340821fc0498788574e0e83568b2d06c10561794a3588673"), looks := false }, kinds := [], alts := [], laidByText := true, laidKinds := [.data], laidTests := true, laidLooks := .later }
def ChartKnuthUptoCardSaid : Prop := Claim7.holds Tryd.pinned (.plain (OpenSpec.upto chartKnuthSpec)) chartKnuthUptoCard

/-- THE SECOND FORM's CARD OF 'emendatelaw40.ChartFixed'. -/
def chartFixedUptoCard : Claim7 := { stood := { row := chartFixedUptoRow, standIns := [], harness := (true, "3edffa7ddbf4c6c7340821fc0498788574e0e83568b2d06c10561794a3588673"), looks := false }, kinds := [], alts := [], laidByText := true, laidKinds := [.data], laidTests := true, laidLooks := .later }
def ChartFixedUptoCardSaid : Prop := Claim7.holds Tryd.pinned (.plain (OpenSpec.upto chartFixedSpec)) chartFixedUptoCard

/-- THE SECOND FORM's CARD OF 'emendatelaw40.ChartSpan'. -/
def chartSpanUptoCard : Claim7 := { stood := { row := chartSpanUptoRow, standIns := [], harness := (true, "3edffa7ddbf4c6c7340821fc0498788574e0e83568b2d06c10561794a3588673"), looks := false }, kinds := [], alts := [], laidByText := true, laidKinds := [.data], laidTests := true, laidLooks := .later }
def ChartSpanUptoCardSaid : Prop := Claim7.holds Tryd.pinned (.plain (OpenSpec.upto chartSpanSpec)) chartSpanUptoCard

/-- THE SECOND FORM's CARD OF 'emendatelaw40.ChartGoal'. -/
def chartGoalUptoCard : Claim7 := { stood := { row := chartGoalUptoRow, standIns := [], harness := (true, "3edffa7ddbf4c6c7340821fc0498788574e0e83568b2d06c10561794a3588673"), looks := false }, kinds := [], alts := [], laidByText := true, laidKinds := [.data], laidTests := true, laidLooks := .later }
def ChartGoalUptoCardSaid : Prop := Claim7.holds Tryd.pinned (.plain (OpenSpec.upto chartGoalSpec)) chartGoalUptoCard

/-- THE SECOND FORM's CARD OF 'emendatelaw40.ChartAt'. -/
def chartAtUptoCard : Claim7 := { stood := { row := chartAtUptoRow, standIns := [], harness := (true, "3edffa7ddbf4c6c7340821fc0498788574e0e83568b2d06c10561794a3588673"), looks := false }, kinds := [], alts := [], laidByText := true, laidKinds := [.data], laidTests := true, laidLooks := .later }
def ChartAtUptoCardSaid : Prop := Claim7.holds Tryd.pinned (.plain (OpenSpec.upto chartAtSpec)) chartAtUptoCard

/-- THE SECOND FORM's CARD OF 'emendatelaw40.ChartMonotone'. -/
def chartMonotoneUptoCard : Claim7 := { stood := { row := chartMonotoneUptoRow, standIns := [], harness := (true, "3edffa7ddbf4c6c7340821fc0498788574e0e83568b2d06c10561794a3588673"), looks := false }, kinds := [], alts := [], laidByText := true, laidKinds := [.data], laidTests := true, laidLooks := .later }
def ChartMonotoneUptoCardSaid : Prop := Claim7.holds Tryd.pinned (.plain (OpenSpec.upto chartMonotoneSpec)) chartMonotoneUptoCard

/-- THE SECOND FORM's CARD OF 'emendatelaw40.ChartLocal'. -/
def chartLocalUptoCard : Claim7 := { stood := { row := chartLocalUptoRow, standIns := [], harness := (true, "3edffa7ddbf4c6c7340821fc0498788574e0e83568b2d06c10561794a3588673"), looks := false }, kinds := [], alts := [], laidByText := true, laidKinds := [.data], laidTests := true, laidLooks := .later }
def ChartLocalUptoCardSaid : Prop := Claim7.holds Tryd.pinned (.plain (OpenSpec.upto chartLocalSpec)) chartLocalUptoCard
end Rows
end Go.Proofs.YtnifpeamgoapmaaDoor
