/-
  NARROWER THAN 'FOR EVERY INPUT', by the rows' own cells (each row's printed sentence says how): ChainTells: laid · ChainServes: laid · ChainCovers: laid · ChainWitness: laid · ChainFewer: laid · ChainOneMore: laid · ChainTower: laid · ChainNames: laid.
  DERIVED. THE GIVEN ROWS OF THIS SEAT. 8 by the template 'for every input the law returns true; each argument reads behind the call as it read before'; 0 by the template 'total and deterministic' (their statements: YtfnalecnnmkgbaaDoorTotals.lean).
  GIVEN WITH THE SEED: the statements are not yours to turn. If you find one false, say at which input.
  Laid BY PROGRAM, IN A SANDBOX (cutbox-rows.mjs): the forced cells as the released guide's own fill.sh prints them over the translation 3f654a97dd8e5bb7… (all of the seat's roots in one cut). By AI agents, Wed Nov 11 2026. No macro, syntax, notation, axiom, sorry.
-/
import Derived.Test.YtfnalecnnmkgbaaDoorChecked
import GoSem.Claim
import GoSem.ClaimJoined
import GoSem.ClaimMapViews
import Derived.JoinedTies
import Derived.KernelRfl
namespace Go.Proofs.YtfnalecnnmkgbaaDoor
/- THE CELL 'sum', in the pinned program and in every row, IS THE sha256 OF THE DUMP (.gsa) THAT YtfnalecnnmkgbaaDoorProg.lean LOADS. Nothing in Lean hashes anything: it is a label: what it is worth is what the hold of that sum in a sandbox is worth. -/
noncomputable def Tryd.pinned : Pinned := { name := "ytfnalecnnmkgbaadoor", sum := "3f654a97dd8e5bb787ea5d3c33496f5348fc15284f8266c75e96d71bbe48de1c", checked := Tryd.checked }
namespace Rows
def none {H : Type} : Left H := { results := [], args := [] }

/- WHAT THE LISTED PACKAGE-LEVEL VARIABLES READ AS WHEN THE CALL BEGINS. Each datum BY PROGRAM (the guide's laid-datum.mjs) off the statement by which the dump's own 'gosem.cut.vars' lays the variable. In a bare row this is a premise. The card (YtfnalecnnmkgbaaDoorCards.lean) ties it to the program's text. -/
def laid_deltaworks_chain_kinds {H : Type} : DataW H := .iface "func table" (.agg [.agg [.iface "func" (.lit (.string [40, 100, 101, 108, 116, 97, 119, 111, 114, 107, 115, 47, 99, 104, 97, 105, 110, 46, 108, 105, 110, 107, 41, 46, 110, 101, 120, 116]))], .agg [.iface "func" (.lit (.string [40, 100, 101, 108, 116, 97, 119, 111, 114, 107, 115, 47, 99, 104, 97, 105, 110, 46, 108, 105, 110, 107, 41, 46, 97, 112, 97, 114, 116]))]])

/-- 'deltaworkslaw17.ChainTells': WHATEVER THE INPUT: true; the input reads as it did. -/
def chainTellsSpec : ChangeSpec := { name := "chainTells", fn := fun _ => fun
  | [d1, d2] => { results := [.lit (.bool true)], args := [d1, d2] }
  | _ => none }
def chainTellsRow : OpenClaim := { program := "ytfnalecnnmkgbaadoor", sum := "3f654a97dd8e5bb787ea5d3c33496f5348fc15284f8266c75e96d71bbe48de1c", func := "deltaworks/deltaworkslaw17.ChainTells", spec := "chainTells", unfollowed := true, recurses := true, named := ["deltaworks/chain.kinds"], plainKeys := false, apart := false, laid := [("deltaworks/chain.kinds", laid_deltaworks_chain_kinds)] }
def ChainTellsSaid : Prop := chainTellsRow.holds Tryd.pinned (OpenSpec.ofChange chainTellsSpec)

/-- ITS FALSE NEIGHBOUR: 'it returns false'. Refute it at one input. -/
def chainTellsWrong : ChangeSpec := { name := "chainTells", fn := fun _ => fun
  | [d1, d2] => { results := [.lit (.bool false)], args := [d1, d2] }
  | _ => none }
def ChainTellsWrongFalsely : Prop := chainTellsRow.holds Tryd.pinned (OpenSpec.ofChange chainTellsWrong)

/-- 'deltaworkslaw17.ChainServes': WHATEVER THE INPUT: true; the input reads as it did. -/
def chainServesSpec : ChangeSpec := { name := "chainServes", fn := fun _ => fun
  | [d1, d2] => { results := [.lit (.bool true)], args := [d1, d2] }
  | _ => none }
def chainServesRow : OpenClaim := { program := "ytfnalecnnmkgbaadoor", sum := "3f654a97dd8e5bb787ea5d3c33496f5348fc15284f8266c75e96d71bbe48de1c", func := "deltaworks/deltaworkslaw17.ChainServes", spec := "chainServes", unfollowed := true, recurses := true, named := ["deltaworks/chain.kinds"], plainKeys := false, apart := false, laid := [("deltaworks/chain.kinds", laid_deltaworks_chain_kinds)] }
def ChainServesSaid : Prop := chainServesRow.holds Tryd.pinned (OpenSpec.ofChange chainServesSpec)

/-- ITS FALSE NEIGHBOUR: 'it returns false'. Refute it at one input. -/
def chainServesWrong : ChangeSpec := { name := "chainServes", fn := fun _ => fun
  | [d1, d2] => { results := [.lit (.bool false)], args := [d1, d2] }
  | _ => none }
def ChainServesWrongFalsely : Prop := chainServesRow.holds Tryd.pinned (OpenSpec.ofChange chainServesWrong)

/-- 'deltaworkslaw17.ChainCovers': WHATEVER THE INPUT: true; the input reads as it did. -/
def chainCoversSpec : ChangeSpec := { name := "chainCovers", fn := fun _ => fun
  | [d1, d2] => { results := [.lit (.bool true)], args := [d1, d2] }
  | _ => none }
def chainCoversRow : OpenClaim := { program := "ytfnalecnnmkgbaadoor", sum := "3f654a97dd8e5bb787ea5d3c33496f5348fc15284f8266c75e96d71bbe48de1c", func := "deltaworks/deltaworkslaw17.ChainCovers", spec := "chainCovers", unfollowed := true, recurses := true, named := ["deltaworks/chain.kinds"], plainKeys := false, apart := false, laid := [("deltaworks/chain.kinds", laid_deltaworks_chain_kinds)] }
def ChainCoversSaid : Prop := chainCoversRow.holds Tryd.pinned (OpenSpec.ofChange chainCoversSpec)

/-- ITS FALSE NEIGHBOUR: 'it returns false'. Refute it at one input. -/
def chainCoversWrong : ChangeSpec := { name := "chainCovers", fn := fun _ => fun
  | [d1, d2] => { results := [.lit (.bool false)], args := [d1, d2] }
  | _ => none }
def ChainCoversWrongFalsely : Prop := chainCoversRow.holds Tryd.pinned (OpenSpec.ofChange chainCoversWrong)

/-- 'deltaworkslaw17.ChainWitness': WHATEVER THE INPUT: true; the input reads as it did. -/
def chainWitnessSpec : ChangeSpec := { name := "chainWitness", fn := fun _ => fun
  | [d1, d2, d3] => { results := [.lit (.bool true)], args := [d1, d2, d3] }
  | _ => none }
def chainWitnessRow : OpenClaim := { program := "ytfnalecnnmkgbaadoor", sum := "3f654a97dd8e5bb787ea5d3c33496f5348fc15284f8266c75e96d71bbe48de1c", func := "deltaworks/deltaworkslaw17.ChainWitness", spec := "chainWitness", unfollowed := true, recurses := true, named := ["deltaworks/chain.kinds"], plainKeys := false, apart := false, laid := [("deltaworks/chain.kinds", laid_deltaworks_chain_kinds)] }
def ChainWitnessSaid : Prop := chainWitnessRow.holds Tryd.pinned (OpenSpec.ofChange chainWitnessSpec)

/-- ITS FALSE NEIGHBOUR: 'it returns false'. Refute it at one input. -/
def chainWitnessWrong : ChangeSpec := { name := "chainWitness", fn := fun _ => fun
  | [d1, d2, d3] => { results := [.lit (.bool false)], args := [d1, d2, d3] }
  | _ => none }
def ChainWitnessWrongFalsely : Prop := chainWitnessRow.holds Tryd.pinned (OpenSpec.ofChange chainWitnessWrong)

/-- 'deltaworkslaw17.ChainFewer': WHATEVER THE INPUT: true; the input reads as it did. -/
def chainFewerSpec : ChangeSpec := { name := "chainFewer", fn := fun _ => fun
  | [d1, d2, d3] => { results := [.lit (.bool true)], args := [d1, d2, d3] }
  | _ => none }
def chainFewerRow : OpenClaim := { program := "ytfnalecnnmkgbaadoor", sum := "3f654a97dd8e5bb787ea5d3c33496f5348fc15284f8266c75e96d71bbe48de1c", func := "deltaworks/deltaworkslaw17.ChainFewer", spec := "chainFewer", unfollowed := true, recurses := true, named := ["deltaworks/chain.kinds"], plainKeys := false, apart := false, laid := [("deltaworks/chain.kinds", laid_deltaworks_chain_kinds)] }
def ChainFewerSaid : Prop := chainFewerRow.holds Tryd.pinned (OpenSpec.ofChange chainFewerSpec)

/-- ITS FALSE NEIGHBOUR: 'it returns false'. Refute it at one input. -/
def chainFewerWrong : ChangeSpec := { name := "chainFewer", fn := fun _ => fun
  | [d1, d2, d3] => { results := [.lit (.bool false)], args := [d1, d2, d3] }
  | _ => none }
def ChainFewerWrongFalsely : Prop := chainFewerRow.holds Tryd.pinned (OpenSpec.ofChange chainFewerWrong)

/-- 'deltaworkslaw17.ChainOneMore': WHATEVER THE INPUT: true; the input reads as it did. -/
def chainOneMoreSpec : ChangeSpec := { name := "chainOneMore", fn := fun _ => fun
  | [d1, d2, d3] => { results := [.lit (.bool true)], args := [d1, d2, d3] }
  | _ => none }
def chainOneMoreRow : OpenClaim := { program := "ytfnalecnnmkgbaadoor", sum := "3f654a97dd8e5bb787ea5d3c33496f5348fc15284f8266c75e96d71bbe48de1c", func := "deltaworks/deltaworkslaw17.ChainOneMore", spec := "chainOneMore", unfollowed := true, recurses := true, named := ["deltaworks/chain.kinds"], plainKeys := false, apart := false, laid := [("deltaworks/chain.kinds", laid_deltaworks_chain_kinds)] }
def ChainOneMoreSaid : Prop := chainOneMoreRow.holds Tryd.pinned (OpenSpec.ofChange chainOneMoreSpec)

/-- ITS FALSE NEIGHBOUR: 'it returns false'. Refute it at one input. -/
def chainOneMoreWrong : ChangeSpec := { name := "chainOneMore", fn := fun _ => fun
  | [d1, d2, d3] => { results := [.lit (.bool false)], args := [d1, d2, d3] }
  | _ => none }
def ChainOneMoreWrongFalsely : Prop := chainOneMoreRow.holds Tryd.pinned (OpenSpec.ofChange chainOneMoreWrong)

/-- 'deltaworkslaw17.ChainTower': WHATEVER THE INPUT: true; the input reads as it did. -/
def chainTowerSpec : ChangeSpec := { name := "chainTower", fn := fun _ => fun
  | [d1, d2] => { results := [.lit (.bool true)], args := [d1, d2] }
  | _ => none }
def chainTowerRow : OpenClaim := { program := "ytfnalecnnmkgbaadoor", sum := "3f654a97dd8e5bb787ea5d3c33496f5348fc15284f8266c75e96d71bbe48de1c", func := "deltaworks/deltaworkslaw17.ChainTower", spec := "chainTower", unfollowed := true, recurses := true, named := ["deltaworks/chain.kinds"], plainKeys := false, apart := false, laid := [("deltaworks/chain.kinds", laid_deltaworks_chain_kinds)] }
def ChainTowerSaid : Prop := chainTowerRow.holds Tryd.pinned (OpenSpec.ofChange chainTowerSpec)

/-- ITS FALSE NEIGHBOUR: 'it returns false'. Refute it at one input. -/
def chainTowerWrong : ChangeSpec := { name := "chainTower", fn := fun _ => fun
  | [d1, d2] => { results := [.lit (.bool false)], args := [d1, d2] }
  | _ => none }
def ChainTowerWrongFalsely : Prop := chainTowerRow.holds Tryd.pinned (OpenSpec.ofChange chainTowerWrong)

/-- 'deltaworkslaw17.ChainNames': WHATEVER THE INPUT: true; the input reads as it did. -/
def chainNamesSpec : ChangeSpec := { name := "chainNames", fn := fun _ => fun
  | [] => { results := [.lit (.bool true)], args := [] }
  | _ => none }
def chainNamesRow : OpenClaim := { program := "ytfnalecnnmkgbaadoor", sum := "3f654a97dd8e5bb787ea5d3c33496f5348fc15284f8266c75e96d71bbe48de1c", func := "deltaworks/deltaworkslaw17.ChainNames", spec := "chainNames", unfollowed := true, recurses := true, named := ["deltaworks/chain.kinds"], plainKeys := false, apart := false, laid := [("deltaworks/chain.kinds", laid_deltaworks_chain_kinds)] }
def ChainNamesSaid : Prop := chainNamesRow.holds Tryd.pinned (OpenSpec.ofChange chainNamesSpec)

/-- ITS FALSE NEIGHBOUR: 'it returns false'. Refute it at one input. -/
def chainNamesWrong : ChangeSpec := { name := "chainNames", fn := fun _ => fun
  | [] => { results := [.lit (.bool false)], args := [] }
  | _ => none }
def ChainNamesWrongFalsely : Prop := chainNamesRow.holds Tryd.pinned (OpenSpec.ofChange chainNamesWrong)

/- THE SECOND FORM. 'bulk': how many values and letters a reading holds, each counted each time it is reached (what is shared counts as often as it is met; a slice's spare places count too). A statement '..UptoSaid' is the law's where the arguments, and the package variables that the reading takes, are together of bulk at most 1048576: NARROWER than '..Said'. Prove '..Said' where nothing that the law and all that it calls make is longer than what came in: it says more and counts as full. Else prove '..UptoSaid'. A law counts once. -/
mutual
def uptoBulk {H : Type} : DataW H → Nat
  | .lit (.string bytes) => bytes.length + 1
  | .lit _ => 1
  | .nil => 1
  | .ptr d => uptoBulk d + 1
  | .slice elems spare => uptoBulkAll elems + uptoBulkAll spare + 1
  | .agg parts => uptoBulkAll parts + 1
  | .iface _ d => uptoBulk d + 1
  | .map entries => uptoBulkEntries entries + 1
  | .held _ => 1
def uptoBulkAll {H : Type} : List (DataW H) → Nat
  | [] => 0
  | d :: r => uptoBulk d + uptoBulkAll r
def uptoBulkEntries {H : Type} : List (Lit × DataW H) → Nat
  | [] => 0
  | x :: r => uptoBulkEntry x + uptoBulkEntries r
def uptoBulkEntry {H : Type} : Lit × DataW H → Nat
  | (.string bytes, d) => bytes.length + uptoBulk d + 1
  | (_, d) => uptoBulk d + 1
 end
def uptoSmall : (H : Type) → List (DataW H) → Bool := fun _ ds => decide (uptoBulkAll ds ≤ 1048576)
def OpenSpec.upto (s : _root_.Go.ChangeSpec) : _root_.Go.OpenSpec := { _root_.Go.OpenSpec.ofChange s with cond := some uptoSmall }

/-- 'deltaworkslaw17.ChainTells', WHERE WHAT IT READS IS OF BULK AT MOST 1048576: true; the input reads as it did. -/
def chainTellsUptoRow : OpenClaim := { program := "ytfnalecnnmkgbaadoor", sum := "3f654a97dd8e5bb787ea5d3c33496f5348fc15284f8266c75e96d71bbe48de1c", func := "deltaworks/deltaworkslaw17.ChainTells", spec := "chainTells", unfollowed := true, recurses := true, named := ["deltaworks/chain.kinds"], plainKeys := false, apart := false, laid := [("deltaworks/chain.kinds", laid_deltaworks_chain_kinds)], narrowed := true }
def ChainTellsUptoSaid : Prop := chainTellsUptoRow.holds Tryd.pinned (OpenSpec.upto chainTellsSpec)

/-- 'deltaworkslaw17.ChainServes', WHERE WHAT IT READS IS OF BULK AT MOST 1048576: true; the input reads as it did. -/
def chainServesUptoRow : OpenClaim := { program := "ytfnalecnnmkgbaadoor", sum := "3f654a97dd8e5bb787ea5d3c33496f5348fc15284f8266c75e96d71bbe48de1c", func := "deltaworks/deltaworkslaw17.ChainServes", spec := "chainServes", unfollowed := true, recurses := true, named := ["deltaworks/chain.kinds"], plainKeys := false, apart := false, laid := [("deltaworks/chain.kinds", laid_deltaworks_chain_kinds)], narrowed := true }
def ChainServesUptoSaid : Prop := chainServesUptoRow.holds Tryd.pinned (OpenSpec.upto chainServesSpec)

/-- 'deltaworkslaw17.ChainCovers', WHERE WHAT IT READS IS OF BULK AT MOST 1048576: true; the input reads as it did. -/
def chainCoversUptoRow : OpenClaim := { program := "ytfnalecnnmkgbaadoor", sum := "3f654a97dd8e5bb787ea5d3c33496f5348fc15284f8266c75e96d71bbe48de1c", func := "deltaworks/deltaworkslaw17.ChainCovers", spec := "chainCovers", unfollowed := true, recurses := true, named := ["deltaworks/chain.kinds"], plainKeys := false, apart := false, laid := [("deltaworks/chain.kinds", laid_deltaworks_chain_kinds)], narrowed := true }
def ChainCoversUptoSaid : Prop := chainCoversUptoRow.holds Tryd.pinned (OpenSpec.upto chainCoversSpec)

/-- 'deltaworkslaw17.ChainWitness', WHERE WHAT IT READS IS OF BULK AT MOST 1048576: true; the input reads as it did. -/
def chainWitnessUptoRow : OpenClaim := { program := "ytfnalecnnmkgbaadoor", sum := "3f654a97dd8e5bb787ea5d3c33496f5348fc15284f8266c75e96d71bbe48de1c", func := "deltaworks/deltaworkslaw17.ChainWitness", spec := "chainWitness", unfollowed := true, recurses := true, named := ["deltaworks/chain.kinds"], plainKeys := false, apart := false, laid := [("deltaworks/chain.kinds", laid_deltaworks_chain_kinds)], narrowed := true }
def ChainWitnessUptoSaid : Prop := chainWitnessUptoRow.holds Tryd.pinned (OpenSpec.upto chainWitnessSpec)

/-- 'deltaworkslaw17.ChainFewer', WHERE WHAT IT READS IS OF BULK AT MOST 1048576: true; the input reads as it did. -/
def chainFewerUptoRow : OpenClaim := { program := "ytfnalecnnmkgbaadoor", sum := "3f654a97dd8e5bb787ea5d3c33496f5348fc15284f8266c75e96d71bbe48de1c", func := "deltaworks/deltaworkslaw17.ChainFewer", spec := "chainFewer", unfollowed := true, recurses := true, named := ["deltaworks/chain.kinds"], plainKeys := false, apart := false, laid := [("deltaworks/chain.kinds", laid_deltaworks_chain_kinds)], narrowed := true }
def ChainFewerUptoSaid : Prop := chainFewerUptoRow.holds Tryd.pinned (OpenSpec.upto chainFewerSpec)

/-- 'deltaworkslaw17.ChainOneMore', WHERE WHAT IT READS IS OF BULK AT MOST 1048576: true; the input reads as it did. -/
def chainOneMoreUptoRow : OpenClaim := { program := "ytfnalecnnmkgbaadoor", sum := "3f654a97dd8e5bb787ea5d3c33496f5348fc15284f8266c75e96d71bbe48de1c", func := "deltaworks/deltaworkslaw17.ChainOneMore", spec := "chainOneMore", unfollowed := true, recurses := true, named := ["deltaworks/chain.kinds"], plainKeys := false, apart := false, laid := [("deltaworks/chain.kinds", laid_deltaworks_chain_kinds)], narrowed := true }
def ChainOneMoreUptoSaid : Prop := chainOneMoreUptoRow.holds Tryd.pinned (OpenSpec.upto chainOneMoreSpec)

/-- 'deltaworkslaw17.ChainTower', WHERE WHAT IT READS IS OF BULK AT MOST 1048576: true; the input reads as it did. -/
def chainTowerUptoRow : OpenClaim := { program := "ytfnalecnnmkgbaadoor", sum := "3f654a97dd8e5bb787ea5d3c33496f5348fc15284f8266c75e96d71bbe48de1c", func := "deltaworks/deltaworkslaw17.ChainTower", spec := "chainTower", unfollowed := true, recurses := true, named := ["deltaworks/chain.kinds"], plainKeys := false, apart := false, laid := [("deltaworks/chain.kinds", laid_deltaworks_chain_kinds)], narrowed := true }
def ChainTowerUptoSaid : Prop := chainTowerUptoRow.holds Tryd.pinned (OpenSpec.upto chainTowerSpec)

/-- 'deltaworkslaw17.ChainNames', WHERE WHAT IT READS IS OF BULK AT MOST 1048576: true; the input reads as it did. -/
def chainNamesUptoRow : OpenClaim := { program := "ytfnalecnnmkgbaadoor", sum := "3f654a97dd8e5bb787ea5d3c33496f5348fc15284f8266c75e96d71bbe48de1c", func := "deltaworks/deltaworkslaw17.ChainNames", spec := "chainNames", unfollowed := true, recurses := true, named := ["deltaworks/chain.kinds"], plainKeys := false, apart := false, laid := [("deltaworks/chain.kinds", laid_deltaworks_chain_kinds)], narrowed := true }
def ChainNamesUptoSaid : Prop := chainNamesUptoRow.holds Tryd.pinned (OpenSpec.upto chainNamesSpec)

end Rows
end Go.Proofs.YtfnalecnnmkgbaaDoor
