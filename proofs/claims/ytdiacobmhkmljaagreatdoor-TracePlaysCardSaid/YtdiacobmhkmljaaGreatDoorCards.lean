/-
  DERIVED. GIVEN WITH THE SEED: THE CARDS: each row of YtdiacobmhkmljaaGreatDoorRows.lean that lists a variable, with what it lists TIED to the program's text (the seventh form; the later family's looks); each row that meets fmt, with fmt's text TOLD by the authors' own Lean function (tested against real Go, not proved from fmt's source: count such statements apart). THE CARD IS WHAT COUNTS. Prove the row's statement (the work); the ties are given (YtdiacobmhkmljaaGreatDoorTie.lean); close each card by the builder's one call (the guide's Derived/Test/ToyasCard.lean, 'card_holds'). Laid BY PROGRAM, IN A SANDBOX (cutbox-door.mjs). By AI agents, Wed Nov 11 2026. No macro, syntax, notation, axiom, sorry.
-/
import Derived.Test.YtdiacobmhkmljaaGreatDoorRows
import GoSem.ClaimSeven
namespace Go.Proofs.YtdiacobmhkmljaaGreatDoor
namespace Rows

/-- THE TIED CARD OF 'deltaworkslaw24.TraceRuns'. -/
def traceRunsCard : Claim7 := { stood := { row := traceRunsRow, standIns := [], harness := (true, "4072cded81eb3aa3507c01493a83d7939adc71604a631b74f272a8f05637049e"), looks := false }, kinds := [], alts := [], laidByText := true, laidKinds := [.funcs, .data], laidTests := true, laidLooks := .later }
def TraceRunsCardSaid : Prop := Claim7.holds Tryz.pinned (.plain (OpenSpec.ofChange traceRunsSpec)) traceRunsCard

/-- THE TIED CARD OF 'deltaworkslaw24.TracePlays'. -/
def tracePlaysCard : Claim7 := { stood := { row := tracePlaysRow, standIns := [], harness := (true, "4072cded81eb3aa3507c01493a83d7939adc71604a631b74f272a8f05637049e"), looks := false }, kinds := [], alts := [], laidByText := true, laidKinds := [.funcs, .data], laidTests := true, laidLooks := .later }
def TracePlaysCardSaid : Prop := Claim7.holds Tryz.pinned (.plain (OpenSpec.ofChange tracePlaysSpec)) tracePlaysCard

/-- THE TIED CARD OF 'deltaworkslaw24.TraceApart'. -/
def traceApartCard : Claim7 := { stood := { row := traceApartRow, standIns := [], harness := (true, "4072cded81eb3aa3507c01493a83d7939adc71604a631b74f272a8f05637049e"), looks := false }, kinds := [], alts := [], laidByText := true, laidKinds := [.funcs, .data], laidTests := true, laidLooks := .later }
def TraceApartCardSaid : Prop := Claim7.holds Tryz.pinned (.plain (OpenSpec.ofChange traceApartSpec)) traceApartCard

/-- THE SECOND FORM's CARD OF 'deltaworkslaw24.TraceRuns'. -/
def traceRunsUptoCard : Claim7 := { stood := { row := traceRunsUptoRow, standIns := [], harness := (true, "4072cded81eb3aa3507c01493a83d7939adc71604a631b74f272a8f05637049e"), looks := false }, kinds := [], alts := [], laidByText := true, laidKinds := [.funcs, .data], laidTests := true, laidLooks := .later }
def TraceRunsUptoCardSaid : Prop := Claim7.holds Tryz.pinned (.plain (OpenSpec.upto traceRunsSpec)) traceRunsUptoCard

/-- THE SECOND FORM's CARD OF 'deltaworkslaw24.TracePlays'. -/
def tracePlaysUptoCard : Claim7 := { stood := { row := tracePlaysUptoRow, standIns := [], harness := (true, "4072cded81eb3aa3507c01493a83d7939adc71604a631b74f272a8f05637049e"), looks := false }, kinds := [], alts := [], laidByText := true, laidKinds := [.funcs, .data], laidTests := true, laidLooks := .later }
def TracePlaysUptoCardSaid : Prop := Claim7.holds Tryz.pinned (.plain (OpenSpec.upto tracePlaysSpec)) tracePlaysUptoCard

/-- THE SECOND FORM's CARD OF 'deltaworkslaw24.TraceApart'. -/
def traceApartUptoCard : Claim7 := { stood := { row := traceApartUptoRow, standIns := [], harness := (true, "4072cded81eb3aa3507c01493a83d7939adc71604a631b74f272a8f05637049e"), looks := false }, kinds := [], alts := [], laidByText := true, laidKinds := [.funcs, .data], laidTests := true, laidLooks := .later }
def TraceApartUptoCardSaid : Prop := Claim7.holds Tryz.pinned (.plain (OpenSpec.upto traceApartSpec)) traceApartUptoCard
end Rows
end Go.Proofs.YtdiacobmhkmljaaGreatDoor
