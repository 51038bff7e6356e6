/-
  DERIVED. GIVEN WITH THE SEED: THE CARDS: each row of YtefkmiomldhmjaaDoorRows.lean that lists a variable, with what it lists TIED to the program's text (the seventh form; the later family's looks); each row that meets fmt, with fmt's text TOLD by the authors' own Lean function (tested against real Go, not proved from fmt's source: count such statements apart). THE CARD IS WHAT COUNTS. Prove the row's statement (the work); the ties are given (YtefkmiomldhmjaaDoorTie.lean); close each card by the builder's one call (the guide's Derived/Test/ToyasCard.lean, 'card_holds'). Laid BY PROGRAM, IN A SANDBOX (cutbox-door.mjs). By AI agents, Wed Nov 11 2026. No macro, syntax, notation, axiom, sorry.
-/
import Derived.Test.YtefkmiomldhmjaaDoorRows
import GoSem.ClaimSeven
namespace Go.Proofs.YtefkmiomldhmjaaDoor
namespace Rows

/-- THE TIED CARD OF 'deltaworkslaw26.SchedTells'. -/
def schedTellsCard : Claim7 := { stood := { row := schedTellsRow, standIns := [], harness := (true, "6cefc2b1bde1bf2d2e4736b735a5958b626a85f4efefb8667d0802a26e43de39"), looks := true }, kinds := [], alts := [], laidByText := true, laidKinds := [.funcs], laidTests := true, laidLooks := .later }
def SchedTellsCardSaid : Prop := Claim7.holds Tryd.pinned (.plain (OpenSpec.ofChange schedTellsSpec)) schedTellsCard

/-- THE TIED CARD OF 'deltaworkslaw26.SchedScratch'. -/
def schedScratchCard : Claim7 := { stood := { row := schedScratchRow, standIns := [], harness := (true, "6cefc2b1bde1bf2d2e4736b735a5958b626a85f4efefb8667d0802a26e43de39"), looks := true }, kinds := [], alts := [], laidByText := true, laidKinds := [.funcs], laidTests := true, laidLooks := .later }
def SchedScratchCardSaid : Prop := Claim7.holds Tryd.pinned (.plain (OpenSpec.ofChange schedScratchSpec)) schedScratchCard

/-- THE TIED CARD OF 'deltaworkslaw26.SchedAnyOrder'. -/
def schedAnyOrderCard : Claim7 := { stood := { row := schedAnyOrderRow, standIns := [], harness := (true, "6cefc2b1bde1bf2d2e4736b735a5958b626a85f4efefb8667d0802a26e43de39"), looks := true }, kinds := [], alts := [], laidByText := true, laidKinds := [.funcs], laidTests := true, laidLooks := .later }
def SchedAnyOrderCardSaid : Prop := Claim7.holds Tryd.pinned (.plain (OpenSpec.ofChange schedAnyOrderSpec)) schedAnyOrderCard

/-- THE TIED CARD OF 'deltaworkslaw26.SchedBehind'. -/
def schedBehindCard : Claim7 := { stood := { row := schedBehindRow, standIns := [], harness := (true, "6cefc2b1bde1bf2d2e4736b735a5958b626a85f4efefb8667d0802a26e43de39"), looks := true }, kinds := [], alts := [], laidByText := true, laidKinds := [.funcs], laidTests := true, laidLooks := .later }
def SchedBehindCardSaid : Prop := Claim7.holds Tryd.pinned (.plain (OpenSpec.ofChange schedBehindSpec)) schedBehindCard

/-- THE TIED CARD OF 'deltaworkslaw26.SchedLittle'. -/
def schedLittleCard : Claim7 := { stood := { row := schedLittleRow, standIns := [], harness := (true, "6cefc2b1bde1bf2d2e4736b735a5958b626a85f4efefb8667d0802a26e43de39"), looks := true }, kinds := [], alts := [], laidByText := true, laidKinds := [.funcs], laidTests := true, laidLooks := .later }
def SchedLittleCardSaid : Prop := Claim7.holds Tryd.pinned (.plain (OpenSpec.ofChange schedLittleSpec)) schedLittleCard

/-- THE TIED CARD OF 'deltaworkslaw26.SchedLazy'. -/
def schedLazyCard : Claim7 := { stood := { row := schedLazyRow, standIns := [], harness := (true, "6cefc2b1bde1bf2d2e4736b735a5958b626a85f4efefb8667d0802a26e43de39"), looks := true }, kinds := [], alts := [], laidByText := true, laidKinds := [.funcs], laidTests := true, laidLooks := .later }
def SchedLazyCardSaid : Prop := Claim7.holds Tryd.pinned (.plain (OpenSpec.ofChange schedLazySpec)) schedLazyCard

/-- THE TIED CARD OF 'deltaworkslaw26.SchedNames'. -/
def schedNamesCard : Claim7 := { stood := { row := schedNamesRow, standIns := [], harness := (true, "6cefc2b1bde1bf2d2e4736b735a5958b626a85f4efefb8667d0802a26e43de39"), looks := true }, kinds := [], alts := [], laidByText := true, laidKinds := [.funcs], laidTests := true, laidLooks := .later }
def SchedNamesCardSaid : Prop := Claim7.holds Tryd.pinned (.plain (OpenSpec.ofChange schedNamesSpec)) schedNamesCard

/-- THE SECOND FORM's CARD OF 'deltaworkslaw26.SchedTells'. -/
def schedTellsUptoCard : Claim7 := { stood := { row := schedTellsUptoRow, standIns := [], harness := (true, "6cefc2b1bde1bf2d2e4736b735a5958b626a85f4efefb8667d0802a26e43de39"), looks := true }, kinds := [], alts := [], laidByText := true, laidKinds := [.funcs], laidTests := true, laidLooks := .later }
def SchedTellsUptoCardSaid : Prop := Claim7.holds Tryd.pinned (.plain (OpenSpec.upto schedTellsSpec)) schedTellsUptoCard

/-- THE SECOND FORM's CARD OF 'deltaworkslaw26.SchedScratch'. -/
def schedScratchUptoCard : Claim7 := { stood := { row := schedScratchUptoRow, standIns := [], harness := (true, "6cefc2b1bde1bf2d2e4736b735a5958b626a85f4efefb8667d0802a26e43de39"), looks := true }, kinds := [], alts := [], laidByText := true, laidKinds := [.funcs], laidTests := true, laidLooks := .later }
def SchedScratchUptoCardSaid : Prop := Claim7.holds Tryd.pinned (.plain (OpenSpec.upto schedScratchSpec)) schedScratchUptoCard

/-- THE SECOND FORM's CARD OF 'deltaworkslaw26.SchedAnyOrder'. -/
def schedAnyOrderUptoCard : Claim7 := { stood := { row := schedAnyOrderUptoRow, standIns := [], harness := (true, "6cefc2b1bde1bf2d2e4736b735a5958b626a85f4efefb8667d0802a26e43de39"), looks := true }, kinds := [], alts := [], laidByText := true, laidKinds := [.funcs], laidTests := true, laidLooks := .later }
def SchedAnyOrderUptoCardSaid : Prop := Claim7.holds Tryd.pinned (.plain (OpenSpec.upto schedAnyOrderSpec)) schedAnyOrderUptoCard

/-- THE SECOND FORM's CARD OF 'deltaworkslaw26.SchedBehind'. -/
def schedBehindUptoCard : Claim7 := { stood := { row := schedBehindUptoRow, standIns := [], harness := (true, "6cefc2b1bde1bf2d2e4736b735a5958b626a85f4efefb8667d0802a26e43de39"), looks := true }, kinds := [], alts := [], laidByText := true, laidKinds := [.funcs], laidTests := true, laidLooks := .later }
def SchedBehindUptoCardSaid : Prop := Claim7.holds Tryd.pinned (.plain (OpenSpec.upto schedBehindSpec)) schedBehindUptoCard

/-- THE SECOND FORM's CARD OF 'deltaworkslaw26.SchedLittle'. -/
def schedLittleUptoCard : Claim7 := { stood := { row := schedLittleUptoRow, standIns := [], harness := (true, "6cefc2b1bde1bf2d2e4736b735a5958b626a85f4efefb8667d0802a26e43de39"), looks := true }, kinds := [], alts := [], laidByText := true, laidKinds := [.funcs], laidTests := true, laidLooks := .later }
def SchedLittleUptoCardSaid : Prop := Claim7.holds Tryd.pinned (.plain (OpenSpec.upto schedLittleSpec)) schedLittleUptoCard

/-- THE SECOND FORM's CARD OF 'deltaworkslaw26.SchedLazy'. -/
def schedLazyUptoCard : Claim7 := { stood := { row := schedLazyUptoRow, standIns := [], harness := (true, "6cefc2b1bde1bf2d2e4736b735a5958b626a85f4efefb8667d0802a26e43de39"), looks := true }, kinds := [], alts := [], laidByText := true, laidKinds := [.funcs], laidTests := true, laidLooks := .later }
def SchedLazyUptoCardSaid : Prop := Claim7.holds Tryd.pinned (.plain (OpenSpec.upto schedLazySpec)) schedLazyUptoCard

/-- THE SECOND FORM's CARD OF 'deltaworkslaw26.SchedNames'. -/
def schedNamesUptoCard : Claim7 := { stood := { row := schedNamesUptoRow, standIns := [], harness := (true, "6cefc2b1bde1bf2d2e4736b735a5958b626a85f4efefb8667d0802a26e43de39"), looks := true }, kinds := [], alts := [], laidByText := true, laidKinds := [.funcs], laidTests := true, laidLooks := .later }
def SchedNamesUptoCardSaid : Prop := Claim7.holds Tryd.pinned (.plain (OpenSpec.upto schedNamesSpec)) schedNamesUptoCard
end Rows
end Go.Proofs.YtefkmiomldhmjaaDoor
