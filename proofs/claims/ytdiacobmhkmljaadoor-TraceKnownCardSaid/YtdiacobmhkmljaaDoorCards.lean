/-
  DERIVED. GIVEN WITH THE SEED: THE CARDS: each row of YtdiacobmhkmljaaDoorRows.lean that lists a variable, with what it lists TIED to the program's text (the seventh form; the later family's looks); each row that meets fmt, with fmt's text TOLD by the authors' own Lean function (tested against real Go, not proved from fmt's source: count such statements apart). THE CARD IS WHAT COUNTS. Prove the row's statement (the work); the ties are given (YtdiacobmhkmljaaDoorTie.lean); close each card by the builder's one call (the guide's Derived/Test/ToyasCard.lean, 'card_holds'). Laid BY PROGRAM, IN A SANDBOX (cutbox-door.mjs). By AI agents, Wed Nov 11 2026. No macro, syntax, notation, axiom, sorry.
-/
import Derived.Test.YtdiacobmhkmljaaDoorRows
import GoSem.ClaimSeven
namespace Go.Proofs.YtdiacobmhkmljaaDoor
namespace Rows

/-- THE TIED CARD OF 'deltaworkslaw24.TraceScratch'. -/
def traceScratchCard : Claim7 := { stood := { row := traceScratchRow, standIns := [], harness := (true, "9424b675a5bf1259037b7c80c1e1d1308b039b71f1eedf5d2444196735f82e90"), looks := false }, kinds := [], alts := [], laidByText := true, laidKinds := [.funcs, .data], laidTests := true, laidLooks := .later }
def TraceScratchCardSaid : Prop := Claim7.holds Tryd.pinned (.plain (OpenSpec.ofChange traceScratchSpec)) traceScratchCard

/-- THE TIED CARD OF 'deltaworkslaw24.TraceStable'. -/
def traceStableCard : Claim7 := { stood := { row := traceStableRow, standIns := [], harness := (true, "9424b675a5bf1259037b7c80c1e1d1308b039b71f1eedf5d2444196735f82e90"), looks := false }, kinds := [], alts := [], laidByText := true, laidKinds := [.funcs, .data], laidTests := true, laidLooks := .later }
def TraceStableCardSaid : Prop := Claim7.holds Tryd.pinned (.plain (OpenSpec.ofChange traceStableSpec)) traceStableCard

/-- THE TIED CARD OF 'deltaworkslaw24.TraceBack'. -/
def traceBackCard : Claim7 := { stood := { row := traceBackRow, standIns := [], harness := (true, "9424b675a5bf1259037b7c80c1e1d1308b039b71f1eedf5d2444196735f82e90"), looks := false }, kinds := [], alts := [], laidByText := true, laidKinds := [.funcs, .data], laidTests := true, laidLooks := .later }
def TraceBackCardSaid : Prop := Claim7.holds Tryd.pinned (.plain (OpenSpec.ofChange traceBackSpec)) traceBackCard

/-- THE TIED CARD OF 'deltaworkslaw24.TraceTriangle'. -/
def traceTriangleCard : Claim7 := { stood := { row := traceTriangleRow, standIns := [], harness := (true, "9424b675a5bf1259037b7c80c1e1d1308b039b71f1eedf5d2444196735f82e90"), looks := false }, kinds := [], alts := [], laidByText := true, laidKinds := [.funcs, .data], laidTests := true, laidLooks := .later }
def TraceTriangleCardSaid : Prop := Claim7.holds Tryd.pinned (.plain (OpenSpec.ofChange traceTriangleSpec)) traceTriangleCard

/-- THE TIED CARD OF 'deltaworkslaw24.TraceSums'. -/
def traceSumsCard : Claim7 := { stood := { row := traceSumsRow, standIns := [], harness := (true, "9424b675a5bf1259037b7c80c1e1d1308b039b71f1eedf5d2444196735f82e90"), looks := false }, kinds := [], alts := [], laidByText := true, laidKinds := [.funcs, .data], laidTests := true, laidLooks := .later }
def TraceSumsCardSaid : Prop := Claim7.holds Tryd.pinned (.plain (OpenSpec.ofChange traceSumsSpec)) traceSumsCard

/-- THE TIED CARD OF 'deltaworkslaw24.TraceKnown'. -/
def traceKnownCard : Claim7 := { stood := { row := traceKnownRow, standIns := [], harness := (true, "9424b675a5bf1259037b7c80c1e1d1308b039b71f1eedf5d2444196735f82e90"), looks := false }, kinds := [], alts := [], laidByText := true, laidKinds := [.funcs, .data], laidTests := true, laidLooks := .later }
def TraceKnownCardSaid : Prop := Claim7.holds Tryd.pinned (.plain (OpenSpec.ofChange traceKnownSpec)) traceKnownCard

/-- THE SECOND FORM's CARD OF 'deltaworkslaw24.TraceScratch'. -/
def traceScratchUptoCard : Claim7 := { stood := { row := traceScratchUptoRow, standIns := [], harness := (true, "9424b675a5bf1259037b7c80c1e1d1308b039b71f1eedf5d2444196735f82e90"), looks := false }, kinds := [], alts := [], laidByText := true, laidKinds := [.funcs, .data], laidTests := true, laidLooks := .later }
def TraceScratchUptoCardSaid : Prop := Claim7.holds Tryd.pinned (.plain (OpenSpec.upto traceScratchSpec)) traceScratchUptoCard

/-- THE SECOND FORM's CARD OF 'deltaworkslaw24.TraceStable'. -/
def traceStableUptoCard : Claim7 := { stood := { row := traceStableUptoRow, standIns := [], harness := (true, "9424b675a5bf1259037b7c80c1e1d1308b039b71f1eedf5d2444196735f82e90"), looks := false }, kinds := [], alts := [], laidByText := true, laidKinds := [.funcs, .data], laidTests := true, laidLooks := .later }
def TraceStableUptoCardSaid : Prop := Claim7.holds Tryd.pinned (.plain (OpenSpec.upto traceStableSpec)) traceStableUptoCard

/-- THE SECOND FORM's CARD OF 'deltaworkslaw24.TraceBack'. -/
def traceBackUptoCard : Claim7 := { stood := { row := traceBackUptoRow, standIns := [], harness := (true, "9424b675a5bf1259037b7c80c1e1d1308b039b71f1eedf5d2444196735f82e90"), looks := false }, kinds := [], alts := [], laidByText := true, laidKinds := [.funcs, .data], laidTests := true, laidLooks := .later }
def TraceBackUptoCardSaid : Prop := Claim7.holds Tryd.pinned (.plain (OpenSpec.upto traceBackSpec)) traceBackUptoCard

/-- THE SECOND FORM's CARD OF 'deltaworkslaw24.TraceTriangle'. -/
def traceTriangleUptoCard : Claim7 := { stood := { row := traceTriangleUptoRow, standIns := [], harness := (true, "9424b675a5bf1259037b7c80c1e1d1308b039b71f1eedf5d2444196735f82e90"), looks := false }, kinds := [], alts := [], laidByText := true, laidKinds := [.funcs, .data], laidTests := true, laidLooks := .later }
def TraceTriangleUptoCardSaid : Prop := Claim7.holds Tryd.pinned (.plain (OpenSpec.upto traceTriangleSpec)) traceTriangleUptoCard

/-- THE SECOND FORM's CARD OF 'deltaworkslaw24.TraceSums'. -/
def traceSumsUptoCard : Claim7 := { stood := { row := traceSumsUptoRow, standIns := [], harness := (true, "9424b675a5bf1259037b7c80c1e1d1308b039b71f1eedf5d2444196735f82e90"), looks := false }, kinds := [], alts := [], laidByText := true, laidKinds := [.funcs, .data], laidTests := true, laidLooks := .later }
def TraceSumsUptoCardSaid : Prop := Claim7.holds Tryd.pinned (.plain (OpenSpec.upto traceSumsSpec)) traceSumsUptoCard

/-- THE SECOND FORM's CARD OF 'deltaworkslaw24.TraceKnown'. -/
def traceKnownUptoCard : Claim7 := { stood := { row := traceKnownUptoRow, standIns := [], harness := (true, "9424b675a5bf1259037b7c80c1e1d1308b039b71f1eedf5d2444196735f82e90"), looks := false }, kinds := [], alts := [], laidByText := true, laidKinds := [.funcs, .data], laidTests := true, laidLooks := .later }
def TraceKnownUptoCardSaid : Prop := Claim7.holds Tryd.pinned (.plain (OpenSpec.upto traceKnownSpec)) traceKnownUptoCard
end Rows
end Go.Proofs.YtdiacobmhkmljaaDoor
