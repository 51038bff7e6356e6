/-
  DERIVED. GIVEN WITH THE SEED: THE CARDS: each row of YtbajelldegijkaaDoorRows.lean that lists a variable, with what it lists TIED to the program's text (the seventh form; the later family's looks); each row that meets fmt, with fmt's text TOLD by the authors' own Lean function (tested against real Go, not proved from fmt's source: count such statements apart). THE CARD IS WHAT COUNTS. Prove the row's statement (the work); the ties are given (YtbajelldegijkaaDoorTie.lean); close each card by the builder's one call (the guide's Derived/Test/ToyasCard.lean, 'card_holds'). Laid BY PROGRAM, IN A SANDBOX (cutbox-door.mjs). By AI agents, Wed Nov 11 2026. No macro, syntax, notation, axiom, sorry.
-/
import Derived.Test.YtbajelldegijkaaDoorRows
import GoSem.ClaimSeven
namespace Go.Proofs.YtbajelldegijkaaDoor
namespace Rows

/-- THE TIED CARD OF 'deltaworkslaw25.WindowTells'. -/
def windowTellsCard : Claim7 := { stood := { row := windowTellsRow, standIns := [], harness := (true, "edd8e981fe4d3e724f26595c5f9106e083d3da54a7e7e8d858f79c443b2db2cc"), looks := true }, kinds := [], alts := [], laidByText := true, laidKinds := [.funcs], laidTests := true, laidLooks := .later }
def WindowTellsCardSaid : Prop := Claim7.holds Tryd.pinned (.plain (OpenSpec.ofChange windowTellsSpec)) windowTellsCard

/-- THE TIED CARD OF 'deltaworkslaw25.WindowPlays'. -/
def windowPlaysCard : Claim7 := { stood := { row := windowPlaysRow, standIns := [], harness := (true, "edd8e981fe4d3e724f26595c5f9106e083d3da54a7e7e8d858f79c443b2db2cc"), looks := true }, kinds := [], alts := [], laidByText := true, laidKinds := [.funcs], laidTests := true, laidLooks := .later }
def WindowPlaysCardSaid : Prop := Claim7.holds Tryd.pinned (.plain (OpenSpec.ofChange windowPlaysSpec)) windowPlaysCard

/-- THE TIED CARD OF 'deltaworkslaw25.WindowQueues'. -/
def windowQueuesCard : Claim7 := { stood := { row := windowQueuesRow, standIns := [], harness := (true, "edd8e981fe4d3e724f26595c5f9106e083d3da54a7e7e8d858f79c443b2db2cc"), looks := true }, kinds := [], alts := [], laidByText := true, laidKinds := [.funcs], laidTests := true, laidLooks := .later }
def WindowQueuesCardSaid : Prop := Claim7.holds Tryd.pinned (.plain (OpenSpec.ofChange windowQueuesSpec)) windowQueuesCard

/-- THE TIED CARD OF 'deltaworkslaw25.WindowStream'. -/
def windowStreamCard : Claim7 := { stood := { row := windowStreamRow, standIns := [], harness := (true, "edd8e981fe4d3e724f26595c5f9106e083d3da54a7e7e8d858f79c443b2db2cc"), looks := true }, kinds := [], alts := [], laidByText := true, laidKinds := [.funcs], laidTests := true, laidLooks := .later }
def WindowStreamCardSaid : Prop := Claim7.holds Tryd.pinned (.plain (OpenSpec.ofChange windowStreamSpec)) windowStreamCard

/-- THE TIED CARD OF 'deltaworkslaw25.WindowOrders'. -/
def windowOrdersCard : Claim7 := { stood := { row := windowOrdersRow, standIns := [], harness := (true, "edd8e981fe4d3e724f26595c5f9106e083d3da54a7e7e8d858f79c443b2db2cc"), looks := true }, kinds := [], alts := [], laidByText := true, laidKinds := [.funcs], laidTests := true, laidLooks := .later }
def WindowOrdersCardSaid : Prop := Claim7.holds Tryd.pinned (.plain (OpenSpec.ofChange windowOrdersSpec)) windowOrdersCard

/-- THE TIED CARD OF 'deltaworkslaw25.WindowTimes'. -/
def windowTimesCard : Claim7 := { stood := { row := windowTimesRow, standIns := [], harness := (true, "edd8e981fe4d3e724f26595c5f9106e083d3da54a7e7e8d858f79c443b2db2cc"), looks := true }, kinds := [], alts := [], laidByText := true, laidKinds := [.funcs], laidTests := true, laidLooks := .later }
def WindowTimesCardSaid : Prop := Claim7.holds Tryd.pinned (.plain (OpenSpec.ofChange windowTimesSpec)) windowTimesCard

/-- THE TIED CARD OF 'deltaworkslaw25.WindowCounts'. -/
def windowCountsCard : Claim7 := { stood := { row := windowCountsRow, standIns := [], harness := (true, "edd8e981fe4d3e724f26595c5f9106e083d3da54a7e7e8d858f79c443b2db2cc"), looks := true }, kinds := [], alts := [], laidByText := true, laidKinds := [.funcs], laidTests := true, laidLooks := .later }
def WindowCountsCardSaid : Prop := Claim7.holds Tryd.pinned (.plain (OpenSpec.ofChange windowCountsSpec)) windowCountsCard

/-- THE TIED CARD OF 'deltaworkslaw25.WindowRolls'. -/
def windowRollsCard : Claim7 := { stood := { row := windowRollsRow, standIns := [], harness := (true, "edd8e981fe4d3e724f26595c5f9106e083d3da54a7e7e8d858f79c443b2db2cc"), looks := true }, kinds := [], alts := [], laidByText := true, laidKinds := [.funcs], laidTests := true, laidLooks := .later }
def WindowRollsCardSaid : Prop := Claim7.holds Tryd.pinned (.plain (OpenSpec.ofChange windowRollsSpec)) windowRollsCard

/-- THE TIED CARD OF 'deltaworkslaw25.WindowKnown'. -/
def windowKnownCard : Claim7 := { stood := { row := windowKnownRow, standIns := [], harness := (true, "edd8e981fe4d3e724f26595c5f9106e083d3da54a7e7e8d858f79c443b2db2cc"), looks := true }, kinds := [], alts := [], laidByText := true, laidKinds := [.funcs], laidTests := true, laidLooks := .later }
def WindowKnownCardSaid : Prop := Claim7.holds Tryd.pinned (.plain (OpenSpec.ofChange windowKnownSpec)) windowKnownCard

/-- THE SECOND FORM's CARD OF 'deltaworkslaw25.WindowTells'. -/
def windowTellsUptoCard : Claim7 := { stood := { row := windowTellsUptoRow, standIns := [], harness := (true, "edd8e981fe4d3e724f26595c5f9106e083d3da54a7e7e8d858f79c443b2db2cc"), looks := true }, kinds := [], alts := [], laidByText := true, laidKinds := [.funcs], laidTests := true, laidLooks := .later }
def WindowTellsUptoCardSaid : Prop := Claim7.holds Tryd.pinned (.plain (OpenSpec.upto windowTellsSpec)) windowTellsUptoCard

/-- THE SECOND FORM's CARD OF 'deltaworkslaw25.WindowPlays'. -/
def windowPlaysUptoCard : Claim7 := { stood := { row := windowPlaysUptoRow, standIns := [], harness := (true, "edd8e981fe4d3e724f26595c5f9106e083d3da54a7e7e8d858f79c443b2db2cc"), looks := true }, kinds := [], alts := [], laidByText := true, laidKinds := [.funcs], laidTests := true, laidLooks := .later }
def WindowPlaysUptoCardSaid : Prop := Claim7.holds Tryd.pinned (.plain (OpenSpec.upto windowPlaysSpec)) windowPlaysUptoCard

/-- THE SECOND FORM's CARD OF 'deltaworkslaw25.WindowQueues'. -/
def windowQueuesUptoCard : Claim7 := { stood := { row := windowQueuesUptoRow, standIns := [], harness := (true, "edd8e981fe4d3e724f26595c5f9106e083d3da54a7e7e8d858f79c443b2db2cc"), looks := true }, kinds := [], alts := [], laidByText := true, laidKinds := [.funcs], laidTests := true, laidLooks := .later }
def WindowQueuesUptoCardSaid : Prop := Claim7.holds Tryd.pinned (.plain (OpenSpec.upto windowQueuesSpec)) windowQueuesUptoCard

/-- THE SECOND FORM's CARD OF 'deltaworkslaw25.WindowStream'. -/
def windowStreamUptoCard : Claim7 := { stood := { row := windowStreamUptoRow, standIns := [], harness := (true, "edd8e981fe4d3e724f26595c5f9106e083d3da54a7e7e8d858f79c443b2db2cc"), looks := true }, kinds := [], alts := [], laidByText := true, laidKinds := [.funcs], laidTests := true, laidLooks := .later }
def WindowStreamUptoCardSaid : Prop := Claim7.holds Tryd.pinned (.plain (OpenSpec.upto windowStreamSpec)) windowStreamUptoCard

/-- THE SECOND FORM's CARD OF 'deltaworkslaw25.WindowOrders'. -/
def windowOrdersUptoCard : Claim7 := { stood := { row := windowOrdersUptoRow, standIns := [], harness := (true, "edd8e981fe4d3e724f26595c5f9106e083d3da54a7e7e8d858f79c443b2db2cc"), looks := true }, kinds := [], alts := [], laidByText := true, laidKinds := [.funcs], laidTests := true, laidLooks := .later }
def WindowOrdersUptoCardSaid : Prop := Claim7.holds Tryd.pinned (.plain (OpenSpec.upto windowOrdersSpec)) windowOrdersUptoCard

/-- THE SECOND FORM's CARD OF 'deltaworkslaw25.WindowTimes'. -/
def windowTimesUptoCard : Claim7 := { stood := { row := windowTimesUptoRow, standIns := [], harness := (true, "edd8e981fe4d3e724f26595c5f9106e083d3da54a7e7e8d858f79c443b2db2cc"), looks := true }, kinds := [], alts := [], laidByText := true, laidKinds := [.funcs], laidTests := true, laidLooks := .later }
def WindowTimesUptoCardSaid : Prop := Claim7.holds Tryd.pinned (.plain (OpenSpec.upto windowTimesSpec)) windowTimesUptoCard

/-- THE SECOND FORM's CARD OF 'deltaworkslaw25.WindowCounts'. -/
def windowCountsUptoCard : Claim7 := { stood := { row := windowCountsUptoRow, standIns := [], harness := (true, "edd8e981fe4d3e724f26595c5f9106e083d3da54a7e7e8d858f79c443b2db2cc"), looks := true }, kinds := [], alts := [], laidByText := true, laidKinds := [.funcs], laidTests := true, laidLooks := .later }
def WindowCountsUptoCardSaid : Prop := Claim7.holds Tryd.pinned (.plain (OpenSpec.upto windowCountsSpec)) windowCountsUptoCard

/-- THE SECOND FORM's CARD OF 'deltaworkslaw25.WindowRolls'. -/
def windowRollsUptoCard : Claim7 := { stood := { row := windowRollsUptoRow, standIns := [], harness := (true, "edd8e981fe4d3e724f26595c5f9106e083d3da54a7e7e8d858f79c443b2db2cc"), looks := true }, kinds := [], alts := [], laidByText := true, laidKinds := [.funcs], laidTests := true, laidLooks := .later }
def WindowRollsUptoCardSaid : Prop := Claim7.holds Tryd.pinned (.plain (OpenSpec.upto windowRollsSpec)) windowRollsUptoCard

/-- THE SECOND FORM's CARD OF 'deltaworkslaw25.WindowKnown'. -/
def windowKnownUptoCard : Claim7 := { stood := { row := windowKnownUptoRow, standIns := [], harness := (true, "edd8e981fe4d3e724f26595c5f9106e083d3da54a7e7e8d858f79c443b2db2cc"), looks := true }, kinds := [], alts := [], laidByText := true, laidKinds := [.funcs], laidTests := true, laidLooks := .later }
def WindowKnownUptoCardSaid : Prop := Claim7.holds Tryd.pinned (.plain (OpenSpec.upto windowKnownSpec)) windowKnownUptoCard
end Rows
end Go.Proofs.YtbajelldegijkaaDoor
