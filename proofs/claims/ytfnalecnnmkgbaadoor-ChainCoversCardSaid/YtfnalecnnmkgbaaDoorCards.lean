/-
  DERIVED. GIVEN WITH THE SEED: THE CARDS: each row of YtfnalecnnmkgbaaDoorRows.lean that lists a variable, with what it lists TIED to the program's text (the seventh form; the later family's looks); each row that meets fmt, with fmt's text TOLD by the authors' own Lean function (tested against real Go, not proved from fmt's source: count such statements apart). THE CARD IS WHAT COUNTS. Prove the row's statement (the work); the ties are given (YtfnalecnnmkgbaaDoorTie.lean); close each card by the builder's one call (the guide's Derived/Test/ToyasCard.lean, 'card_holds'). Laid BY PROGRAM, IN A SANDBOX (cutbox-door.mjs). By AI agents, Wed Nov 11 2026. No macro, syntax, notation, axiom, sorry.
-/
import Derived.Test.YtfnalecnnmkgbaaDoorRows
import GoSem.ClaimSeven
namespace Go.Proofs.YtfnalecnnmkgbaaDoor
namespace Rows

/-- THE TIED CARD OF 'deltaworkslaw17.ChainTells'. -/
def chainTellsCard : Claim7 := { stood := { row := chainTellsRow, standIns := [], harness := (true, "7ca215f89dcb56192907894ebb202dba9dfd88656de70e05d24e69a29da322ff"), looks := true }, kinds := [], alts := [], laidByText := true, laidKinds := [.funcs], laidTests := true, laidLooks := .later }
def ChainTellsCardSaid : Prop := Claim7.holds Tryd.pinned (.plain (OpenSpec.ofChange chainTellsSpec)) chainTellsCard

/-- THE TIED CARD OF 'deltaworkslaw17.ChainServes'. -/
def chainServesCard : Claim7 := { stood := { row := chainServesRow, standIns := [], harness := (true, "7ca215f89dcb56192907894ebb202dba9dfd88656de70e05d24e69a29da322ff"), looks := true }, kinds := [], alts := [], laidByText := true, laidKinds := [.funcs], laidTests := true, laidLooks := .later }
def ChainServesCardSaid : Prop := Claim7.holds Tryd.pinned (.plain (OpenSpec.ofChange chainServesSpec)) chainServesCard

/-- THE TIED CARD OF 'deltaworkslaw17.ChainCovers'. -/
def chainCoversCard : Claim7 := { stood := { row := chainCoversRow, standIns := [], harness := (true, "7ca215f89dcb56192907894ebb202dba9dfd88656de70e05d24e69a29da322ff"), looks := true }, kinds := [], alts := [], laidByText := true, laidKinds := [.funcs], laidTests := true, laidLooks := .later }
def ChainCoversCardSaid : Prop := Claim7.holds Tryd.pinned (.plain (OpenSpec.ofChange chainCoversSpec)) chainCoversCard

/-- THE TIED CARD OF 'deltaworkslaw17.ChainWitness'. -/
def chainWitnessCard : Claim7 := { stood := { row := chainWitnessRow, standIns := [], harness := (true, "7ca215f89dcb56192907894ebb202dba9dfd88656de70e05d24e69a29da322ff"), looks := true }, kinds := [], alts := [], laidByText := true, laidKinds := [.funcs], laidTests := true, laidLooks := .later }
def ChainWitnessCardSaid : Prop := Claim7.holds Tryd.pinned (.plain (OpenSpec.ofChange chainWitnessSpec)) chainWitnessCard

/-- THE TIED CARD OF 'deltaworkslaw17.ChainFewer'. -/
def chainFewerCard : Claim7 := { stood := { row := chainFewerRow, standIns := [], harness := (true, "7ca215f89dcb56192907894ebb202dba9dfd88656de70e05d24e69a29da322ff"), looks := true }, kinds := [], alts := [], laidByText := true, laidKinds := [.funcs], laidTests := true, laidLooks := .later }
def ChainFewerCardSaid : Prop := Claim7.holds Tryd.pinned (.plain (OpenSpec.ofChange chainFewerSpec)) chainFewerCard

/-- THE TIED CARD OF 'deltaworkslaw17.ChainOneMore'. -/
def chainOneMoreCard : Claim7 := { stood := { row := chainOneMoreRow, standIns := [], harness := (true, "7ca215f89dcb56192907894ebb202dba9dfd88656de70e05d24e69a29da322ff"), looks := true }, kinds := [], alts := [], laidByText := true, laidKinds := [.funcs], laidTests := true, laidLooks := .later }
def ChainOneMoreCardSaid : Prop := Claim7.holds Tryd.pinned (.plain (OpenSpec.ofChange chainOneMoreSpec)) chainOneMoreCard

/-- THE TIED CARD OF 'deltaworkslaw17.ChainTower'. -/
def chainTowerCard : Claim7 := { stood := { row := chainTowerRow, standIns := [], harness := (true, "7ca215f89dcb56192907894ebb202dba9dfd88656de70e05d24e69a29da322ff"), looks := true }, kinds := [], alts := [], laidByText := true, laidKinds := [.funcs], laidTests := true, laidLooks := .later }
def ChainTowerCardSaid : Prop := Claim7.holds Tryd.pinned (.plain (OpenSpec.ofChange chainTowerSpec)) chainTowerCard

/-- THE TIED CARD OF 'deltaworkslaw17.ChainNames'. -/
def chainNamesCard : Claim7 := { stood := { row := chainNamesRow, standIns := [], harness := (true, "7ca215f89dcb56192907894ebb202dba9dfd88656de70e05d24e69a29da322ff"), looks := true }, kinds := [], alts := [], laidByText := true, laidKinds := [.funcs], laidTests := true, laidLooks := .later }
def ChainNamesCardSaid : Prop := Claim7.holds Tryd.pinned (.plain (OpenSpec.ofChange chainNamesSpec)) chainNamesCard

/-- THE SECOND FORM's CARD OF 'deltaworkslaw17.ChainTells'. -/
def chainTellsUptoCard : Claim7 := { stood := { row := chainTellsUptoRow, standIns := [], harness := (true, "7ca215f89dcb56192907894ebb202dba9dfd88656de70e05d24e69a29da322ff"), looks := true }, kinds := [], alts := [], laidByText := true, laidKinds := [.funcs], laidTests := true, laidLooks := .later }
def ChainTellsUptoCardSaid : Prop := Claim7.holds Tryd.pinned (.plain (OpenSpec.upto chainTellsSpec)) chainTellsUptoCard

/-- THE SECOND FORM's CARD OF 'deltaworkslaw17.ChainServes'. -/
def chainServesUptoCard : Claim7 := { stood := { row := chainServesUptoRow, standIns := [], harness := (true, "7ca215f89dcb56192907894ebb202dba9dfd88656de70e05d24e69a29da322ff"), looks := true }, kinds := [], alts := [], laidByText := true, laidKinds := [.funcs], laidTests := true, laidLooks := .later }
def ChainServesUptoCardSaid : Prop := Claim7.holds Tryd.pinned (.plain (OpenSpec.upto chainServesSpec)) chainServesUptoCard

/-- THE SECOND FORM's CARD OF 'deltaworkslaw17.ChainCovers'. -/
def chainCoversUptoCard : Claim7 := { stood := { row := chainCoversUptoRow, standIns := [], harness := (true, "7ca215f89dcb56192907894ebb202dba9dfd88656de70e05d24e69a29da322ff"), looks := true }, kinds := [], alts := [], laidByText := true, laidKinds := [.funcs], laidTests := true, laidLooks := .later }
def ChainCoversUptoCardSaid : Prop := Claim7.holds Tryd.pinned (.plain (OpenSpec.upto chainCoversSpec)) chainCoversUptoCard

/-- THE SECOND FORM's CARD OF 'deltaworkslaw17.ChainWitness'. -/
def chainWitnessUptoCard : Claim7 := { stood := { row := chainWitnessUptoRow, standIns := [], harness := (true, "7ca215f89dcb56192907894ebb202dba9dfd88656de70e05d24e69a29da322ff"), looks := true }, kinds := [], alts := [], laidByText := true, laidKinds := [.funcs], laidTests := true, laidLooks := .later }
def ChainWitnessUptoCardSaid : Prop := Claim7.holds Tryd.pinned (.plain (OpenSpec.upto chainWitnessSpec)) chainWitnessUptoCard

/-- THE SECOND FORM's CARD OF 'deltaworkslaw17.ChainFewer'. -/
def chainFewerUptoCard : Claim7 := { stood := { row := chainFewerUptoRow, standIns := [], harness := (true, "7ca215f89dcb56192907894ebb202dba9dfd88656de70e05d24e69a29da322ff"), looks := true }, kinds := [], alts := [], laidByText := true, laidKinds := [.funcs], laidTests := true, laidLooks := .later }
def ChainFewerUptoCardSaid : Prop := Claim7.holds Tryd.pinned (.plain (OpenSpec.upto chainFewerSpec)) chainFewerUptoCard

/-- THE SECOND FORM's CARD OF 'deltaworkslaw17.ChainOneMore'. -/
def chainOneMoreUptoCard : Claim7 := { stood := { row := chainOneMoreUptoRow, standIns := [], harness := (true, "7ca215f89dcb56192907894ebb202dba9dfd88656de70e05d24e69a29da322ff"), looks := true }, kinds := [], alts := [], laidByText := true, laidKinds := [.funcs], laidTests := true, laidLooks := .later }
def ChainOneMoreUptoCardSaid : Prop := Claim7.holds Tryd.pinned (.plain (OpenSpec.upto chainOneMoreSpec)) chainOneMoreUptoCard

/-- THE SECOND FORM's CARD OF 'deltaworkslaw17.ChainTower'. -/
def chainTowerUptoCard : Claim7 := { stood := { row := chainTowerUptoRow, standIns := [], harness := (true, "7ca215f89dcb56192907894ebb202dba9dfd88656de70e05d24e69a29da322ff"), looks := true }, kinds := [], alts := [], laidByText := true, laidKinds := [.funcs], laidTests := true, laidLooks := .later }
def ChainTowerUptoCardSaid : Prop := Claim7.holds Tryd.pinned (.plain (OpenSpec.upto chainTowerSpec)) chainTowerUptoCard

/-- THE SECOND FORM's CARD OF 'deltaworkslaw17.ChainNames'. -/
def chainNamesUptoCard : Claim7 := { stood := { row := chainNamesUptoRow, standIns := [], harness := (true, "7ca215f89dcb56192907894ebb202dba9dfd88656de70e05d24e69a29da322ff"), looks := true }, kinds := [], alts := [], laidByText := true, laidKinds := [.funcs], laidTests := true, laidLooks := .later }
def ChainNamesUptoCardSaid : Prop := Claim7.holds Tryd.pinned (.plain (OpenSpec.upto chainNamesSpec)) chainNamesUptoCard
end Rows
end Go.Proofs.YtfnalecnnmkgbaaDoor
