/-
  NARROWER THAN 'FOR EVERY INPUT', by the rows' own cells (each row's printed sentence says how): WindowTells: laid · WindowPlays: laid · WindowQueues: laid · WindowStream: laid · WindowOrders: laid · WindowTimes: laid · WindowCounts: laid · WindowRolls: laid · WindowKnown: laid.
  DERIVED. THE GIVEN ROWS OF THIS SEAT. 9 by the template 'for every input the law returns true; each argument reads behind the call as it read before'; 0 by the template 'total and deterministic' (their statements: YtbajelldegijkaaDoorTotals.lean).
  GIVEN WITH THE SEED: the statements are not yours to turn. If you find one false, say at which input.
  Laid BY PROGRAM, IN A SANDBOX (cutbox-rows.mjs): the forced cells as the released guide's own fill.sh prints them over the translation 9b775876d6af7e8a… (all of the seat's roots in one cut). By AI agents, Wed Nov 11 2026. No macro, syntax, notation, axiom, sorry.
-/
import Derived.Test.YtbajelldegijkaaDoorChecked
import GoSem.Claim
import GoSem.ClaimJoined
import GoSem.ClaimMapViews
import Derived.JoinedTies
import Derived.KernelRfl
namespace Go.Proofs.YtbajelldegijkaaDoor
/- THE CELL 'sum', in the pinned program and in every row, IS THE sha256 OF THE DUMP (.gsa) THAT YtbajelldegijkaaDoorProg.lean LOADS. Nothing in Lean hashes anything: it is a label: what it is worth is what the hold of that sum in a sandbox is worth. -/
noncomputable def Tryd.pinned : Pinned := { name := "ytbajelldegijkaadoor", sum := "9b775876d6af7e8ae2e838a91917bc906410b056a97e81959b66e5bdaecc8210", checked := Tryd.checked }
namespace Rows
def none {H : Type} : Left H := { results := [], args := [] }

/- WHAT THE LISTED PACKAGE-LEVEL VARIABLES READ AS WHEN THE CALL BEGINS. Each datum BY PROGRAM (the guide's laid-datum.mjs) off the statement by which the dump's own 'gosem.cut.vars' lays the variable. In a bare row this is a premise. The card (YtbajelldegijkaaDoorCards.lean) ties it to the program's text. -/
def laid_deltaworks_window_folds {H : Type} : DataW H := .iface "func table" (.agg [.agg [.lit (.int .i64 0), .iface "func" (.lit (.string [100, 101, 108, 116, 97, 119, 111, 114, 107, 115, 47, 119, 105, 110, 100, 111, 119, 46, 102, 111, 108, 100, 115, 36, 49])), .iface "func" (.lit (.string [40, 100, 101, 108, 116, 97, 119, 111, 114, 107, 115, 47, 119, 105, 110, 100, 111, 119, 46, 119, 111, 114, 100, 41, 46, 115, 117, 109]))], .agg [.lit (.int .i64 0), .iface "func" (.lit (.string [40, 100, 101, 108, 116, 97, 119, 111, 114, 107, 115, 47, 119, 105, 110, 100, 111, 119, 46, 119, 111, 114, 100, 41, 46, 105, 116, 115, 101, 108, 102])), .iface "func" (.lit (.string [40, 100, 101, 108, 116, 97, 119, 111, 114, 107, 115, 47, 119, 105, 110, 100, 111, 119, 46, 119, 111, 114, 100, 41, 46, 115, 117, 109]))], .agg [.lit (.int .i64 2147483647), .iface "func" (.lit (.string [40, 100, 101, 108, 116, 97, 119, 111, 114, 107, 115, 47, 119, 105, 110, 100, 111, 119, 46, 119, 111, 114, 100, 41, 46, 105, 116, 115, 101, 108, 102])), .iface "func" (.lit (.string [40, 100, 101, 108, 116, 97, 119, 111, 114, 107, 115, 47, 119, 105, 110, 100, 111, 119, 46, 119, 111, 114, 100, 41, 46, 109, 105, 110]))], .agg [.lit (.int .i64 (-2147483648)), .iface "func" (.lit (.string [40, 100, 101, 108, 116, 97, 119, 111, 114, 107, 115, 47, 119, 105, 110, 100, 111, 119, 46, 119, 111, 114, 100, 41, 46, 105, 116, 115, 101, 108, 102])), .iface "func" (.lit (.string [40, 100, 101, 108, 116, 97, 119, 111, 114, 107, 115, 47, 119, 105, 110, 100, 111, 119, 46, 119, 111, 114, 100, 41, 46, 109, 97, 120]))]])

/-- 'deltaworkslaw25.WindowTells': WHATEVER THE INPUT: true; the input reads as it did. -/
def windowTellsSpec : ChangeSpec := { name := "windowTells", fn := fun _ => fun
  | [d1, d2, d3] => { results := [.lit (.bool true)], args := [d1, d2, d3] }
  | _ => none }
def windowTellsRow : OpenClaim := { program := "ytbajelldegijkaadoor", sum := "9b775876d6af7e8ae2e838a91917bc906410b056a97e81959b66e5bdaecc8210", func := "deltaworks/deltaworkslaw25.WindowTells", spec := "windowTells", unfollowed := true, recurses := true, named := ["deltaworks/window.folds"], plainKeys := false, apart := false, laid := [("deltaworks/window.folds", laid_deltaworks_window_folds)] }
def WindowTellsSaid : Prop := windowTellsRow.holds Tryd.pinned (OpenSpec.ofChange windowTellsSpec)

/-- ITS FALSE NEIGHBOUR: 'it returns false'. Refute it at one input. -/
def windowTellsWrong : ChangeSpec := { name := "windowTells", fn := fun _ => fun
  | [d1, d2, d3] => { results := [.lit (.bool false)], args := [d1, d2, d3] }
  | _ => none }
def WindowTellsWrongFalsely : Prop := windowTellsRow.holds Tryd.pinned (OpenSpec.ofChange windowTellsWrong)

/-- 'deltaworkslaw25.WindowPlays': WHATEVER THE INPUT: true; the input reads as it did. -/
def windowPlaysSpec : ChangeSpec := { name := "windowPlays", fn := fun _ => fun
  | [d1, d2] => { results := [.lit (.bool true)], args := [d1, d2] }
  | _ => none }
def windowPlaysRow : OpenClaim := { program := "ytbajelldegijkaadoor", sum := "9b775876d6af7e8ae2e838a91917bc906410b056a97e81959b66e5bdaecc8210", func := "deltaworks/deltaworkslaw25.WindowPlays", spec := "windowPlays", unfollowed := true, recurses := true, named := ["deltaworks/window.folds"], plainKeys := false, apart := false, laid := [("deltaworks/window.folds", laid_deltaworks_window_folds)] }
def WindowPlaysSaid : Prop := windowPlaysRow.holds Tryd.pinned (OpenSpec.ofChange windowPlaysSpec)

/-- ITS FALSE NEIGHBOUR: 'it returns false'. Refute it at one input. -/
def windowPlaysWrong : ChangeSpec := { name := "windowPlays", fn := fun _ => fun
  | [d1, d2] => { results := [.lit (.bool false)], args := [d1, d2] }
  | _ => none }
def WindowPlaysWrongFalsely : Prop := windowPlaysRow.holds Tryd.pinned (OpenSpec.ofChange windowPlaysWrong)

/-- 'deltaworkslaw25.WindowQueues': WHATEVER THE INPUT: true; the input reads as it did. -/
def windowQueuesSpec : ChangeSpec := { name := "windowQueues", fn := fun _ => fun
  | [d1, d2] => { results := [.lit (.bool true)], args := [d1, d2] }
  | _ => none }
def windowQueuesRow : OpenClaim := { program := "ytbajelldegijkaadoor", sum := "9b775876d6af7e8ae2e838a91917bc906410b056a97e81959b66e5bdaecc8210", func := "deltaworks/deltaworkslaw25.WindowQueues", spec := "windowQueues", unfollowed := true, recurses := true, named := ["deltaworks/window.folds"], plainKeys := false, apart := false, laid := [("deltaworks/window.folds", laid_deltaworks_window_folds)] }
def WindowQueuesSaid : Prop := windowQueuesRow.holds Tryd.pinned (OpenSpec.ofChange windowQueuesSpec)

/-- ITS FALSE NEIGHBOUR: 'it returns false'. Refute it at one input. -/
def windowQueuesWrong : ChangeSpec := { name := "windowQueues", fn := fun _ => fun
  | [d1, d2] => { results := [.lit (.bool false)], args := [d1, d2] }
  | _ => none }
def WindowQueuesWrongFalsely : Prop := windowQueuesRow.holds Tryd.pinned (OpenSpec.ofChange windowQueuesWrong)

/-- 'deltaworkslaw25.WindowStream': WHATEVER THE INPUT: true; the input reads as it did. -/
def windowStreamSpec : ChangeSpec := { name := "windowStream", fn := fun _ => fun
  | [d1, d2] => { results := [.lit (.bool true)], args := [d1, d2] }
  | _ => none }
def windowStreamRow : OpenClaim := { program := "ytbajelldegijkaadoor", sum := "9b775876d6af7e8ae2e838a91917bc906410b056a97e81959b66e5bdaecc8210", func := "deltaworks/deltaworkslaw25.WindowStream", spec := "windowStream", unfollowed := true, recurses := true, named := ["deltaworks/window.folds"], plainKeys := false, apart := false, laid := [("deltaworks/window.folds", laid_deltaworks_window_folds)] }
def WindowStreamSaid : Prop := windowStreamRow.holds Tryd.pinned (OpenSpec.ofChange windowStreamSpec)

/-- ITS FALSE NEIGHBOUR: 'it returns false'. Refute it at one input. -/
def windowStreamWrong : ChangeSpec := { name := "windowStream", fn := fun _ => fun
  | [d1, d2] => { results := [.lit (.bool false)], args := [d1, d2] }
  | _ => none }
def WindowStreamWrongFalsely : Prop := windowStreamRow.holds Tryd.pinned (OpenSpec.ofChange windowStreamWrong)

/-- 'deltaworkslaw25.WindowOrders': WHATEVER THE INPUT: true; the input reads as it did. -/
def windowOrdersSpec : ChangeSpec := { name := "windowOrders", fn := fun _ => fun
  | [d1, d2, d3, d4] => { results := [.lit (.bool true)], args := [d1, d2, d3, d4] }
  | _ => none }
def windowOrdersRow : OpenClaim := { program := "ytbajelldegijkaadoor", sum := "9b775876d6af7e8ae2e838a91917bc906410b056a97e81959b66e5bdaecc8210", func := "deltaworks/deltaworkslaw25.WindowOrders", spec := "windowOrders", unfollowed := true, recurses := true, named := ["deltaworks/window.folds"], plainKeys := false, apart := false, laid := [("deltaworks/window.folds", laid_deltaworks_window_folds)] }
def WindowOrdersSaid : Prop := windowOrdersRow.holds Tryd.pinned (OpenSpec.ofChange windowOrdersSpec)

/-- ITS FALSE NEIGHBOUR: 'it returns false'. Refute it at one input. -/
def windowOrdersWrong : ChangeSpec := { name := "windowOrders", fn := fun _ => fun
  | [d1, d2, d3, d4] => { results := [.lit (.bool false)], args := [d1, d2, d3, d4] }
  | _ => none }
def WindowOrdersWrongFalsely : Prop := windowOrdersRow.holds Tryd.pinned (OpenSpec.ofChange windowOrdersWrong)

/-- 'deltaworkslaw25.WindowTimes': WHATEVER THE INPUT: true; the input reads as it did. -/
def windowTimesSpec : ChangeSpec := { name := "windowTimes", fn := fun _ => fun
  | [d1, d2, d3] => { results := [.lit (.bool true)], args := [d1, d2, d3] }
  | _ => none }
def windowTimesRow : OpenClaim := { program := "ytbajelldegijkaadoor", sum := "9b775876d6af7e8ae2e838a91917bc906410b056a97e81959b66e5bdaecc8210", func := "deltaworks/deltaworkslaw25.WindowTimes", spec := "windowTimes", unfollowed := true, recurses := true, named := ["deltaworks/window.folds"], plainKeys := false, apart := false, laid := [("deltaworks/window.folds", laid_deltaworks_window_folds)] }
def WindowTimesSaid : Prop := windowTimesRow.holds Tryd.pinned (OpenSpec.ofChange windowTimesSpec)

/-- ITS FALSE NEIGHBOUR: 'it returns false'. Refute it at one input. -/
def windowTimesWrong : ChangeSpec := { name := "windowTimes", fn := fun _ => fun
  | [d1, d2, d3] => { results := [.lit (.bool false)], args := [d1, d2, d3] }
  | _ => none }
def WindowTimesWrongFalsely : Prop := windowTimesRow.holds Tryd.pinned (OpenSpec.ofChange windowTimesWrong)

/-- 'deltaworkslaw25.WindowCounts': WHATEVER THE INPUT: true; the input reads as it did. -/
def windowCountsSpec : ChangeSpec := { name := "windowCounts", fn := fun _ => fun
  | [d1, d2] => { results := [.lit (.bool true)], args := [d1, d2] }
  | _ => none }
def windowCountsRow : OpenClaim := { program := "ytbajelldegijkaadoor", sum := "9b775876d6af7e8ae2e838a91917bc906410b056a97e81959b66e5bdaecc8210", func := "deltaworks/deltaworkslaw25.WindowCounts", spec := "windowCounts", unfollowed := true, recurses := true, named := ["deltaworks/window.folds"], plainKeys := false, apart := false, laid := [("deltaworks/window.folds", laid_deltaworks_window_folds)] }
def WindowCountsSaid : Prop := windowCountsRow.holds Tryd.pinned (OpenSpec.ofChange windowCountsSpec)

/-- ITS FALSE NEIGHBOUR: 'it returns false'. Refute it at one input. -/
def windowCountsWrong : ChangeSpec := { name := "windowCounts", fn := fun _ => fun
  | [d1, d2] => { results := [.lit (.bool false)], args := [d1, d2] }
  | _ => none }
def WindowCountsWrongFalsely : Prop := windowCountsRow.holds Tryd.pinned (OpenSpec.ofChange windowCountsWrong)

/-- 'deltaworkslaw25.WindowRolls': WHATEVER THE INPUT: true; the input reads as it did. -/
def windowRollsSpec : ChangeSpec := { name := "windowRolls", fn := fun _ => fun
  | [d1, d2, d3] => { results := [.lit (.bool true)], args := [d1, d2, d3] }
  | _ => none }
def windowRollsRow : OpenClaim := { program := "ytbajelldegijkaadoor", sum := "9b775876d6af7e8ae2e838a91917bc906410b056a97e81959b66e5bdaecc8210", func := "deltaworks/deltaworkslaw25.WindowRolls", spec := "windowRolls", unfollowed := true, recurses := true, named := ["deltaworks/window.folds"], plainKeys := false, apart := false, laid := [("deltaworks/window.folds", laid_deltaworks_window_folds)] }
def WindowRollsSaid : Prop := windowRollsRow.holds Tryd.pinned (OpenSpec.ofChange windowRollsSpec)

/-- ITS FALSE NEIGHBOUR: 'it returns false'. Refute it at one input. -/
def windowRollsWrong : ChangeSpec := { name := "windowRolls", fn := fun _ => fun
  | [d1, d2, d3] => { results := [.lit (.bool false)], args := [d1, d2, d3] }
  | _ => none }
def WindowRollsWrongFalsely : Prop := windowRollsRow.holds Tryd.pinned (OpenSpec.ofChange windowRollsWrong)

/-- 'deltaworkslaw25.WindowKnown': WHATEVER THE INPUT: true; the input reads as it did. -/
def windowKnownSpec : ChangeSpec := { name := "windowKnown", fn := fun _ => fun
  | [] => { results := [.lit (.bool true)], args := [] }
  | _ => none }
def windowKnownRow : OpenClaim := { program := "ytbajelldegijkaadoor", sum := "9b775876d6af7e8ae2e838a91917bc906410b056a97e81959b66e5bdaecc8210", func := "deltaworks/deltaworkslaw25.WindowKnown", spec := "windowKnown", unfollowed := true, recurses := true, named := ["deltaworks/window.folds"], plainKeys := false, apart := false, laid := [("deltaworks/window.folds", laid_deltaworks_window_folds)] }
def WindowKnownSaid : Prop := windowKnownRow.holds Tryd.pinned (OpenSpec.ofChange windowKnownSpec)

/-- ITS FALSE NEIGHBOUR: 'it returns false'. Refute it at one input. -/
def windowKnownWrong : ChangeSpec := { name := "windowKnown", fn := fun _ => fun
  | [] => { results := [.lit (.bool false)], args := [] }
  | _ => none }
def WindowKnownWrongFalsely : Prop := windowKnownRow.holds Tryd.pinned (OpenSpec.ofChange windowKnownWrong)

/- THE SECOND FORM. 'bulk': how many values and letters a reading holds, each counted each time it is reached (what is shared counts as often as it is met; a slice's spare places count too). A statement '..UptoSaid' is the law's where the arguments, and the package variables that the reading takes, are together of bulk at most 1048576: NARROWER than '..Said'. Prove '..Said' where nothing that the law and all that it calls make is longer than what came in: it says more and counts as full. Else prove '..UptoSaid'. A law counts once. -/
mutual
def uptoBulk {H : Type} : DataW H → Nat
  | .lit (.string bytes) => bytes.length + 1
  | .lit _ => 1
  | .nil => 1
  | .ptr d => uptoBulk d + 1
  | .slice elems spare => uptoBulkAll elems + uptoBulkAll spare + 1
  | .agg parts => uptoBulkAll parts + 1
  | .iface _ d => uptoBulk d + 1
  | .map entries => uptoBulkEntries entries + 1
  | .held _ => 1
def uptoBulkAll {H : Type} : List (DataW H) → Nat
  | [] => 0
  | d :: r => uptoBulk d + uptoBulkAll r
def uptoBulkEntries {H : Type} : List (Lit × DataW H) → Nat
  | [] => 0
  | x :: r => uptoBulkEntry x + uptoBulkEntries r
def uptoBulkEntry {H : Type} : Lit × DataW H → Nat
  | (.string bytes, d) => bytes.length + uptoBulk d + 1
  | (_, d) => uptoBulk d + 1
 end
def uptoSmall : (H : Type) → List (DataW H) → Bool := fun _ ds => decide (uptoBulkAll ds ≤ 1048576)
def OpenSpec.upto (s : _root_.Go.ChangeSpec) : _root_.Go.OpenSpec := { _root_.Go.OpenSpec.ofChange s with cond := some uptoSmall }

/-- 'deltaworkslaw25.WindowTells', WHERE WHAT IT READS IS OF BULK AT MOST 1048576: true; the input reads as it did. -/
def windowTellsUptoRow : OpenClaim := { program := "ytbajelldegijkaadoor", sum := "9b775876d6af7e8ae2e838a91917bc906410b056a97e81959b66e5bdaecc8210", func := "deltaworks/deltaworkslaw25.WindowTells", spec := "windowTells", unfollowed := true, recurses := true, named := ["deltaworks/window.folds"], plainKeys := false, apart := false, laid := [("deltaworks/window.folds", laid_deltaworks_window_folds)], narrowed := true }
def WindowTellsUptoSaid : Prop := windowTellsUptoRow.holds Tryd.pinned (OpenSpec.upto windowTellsSpec)

/-- 'deltaworkslaw25.WindowPlays', WHERE WHAT IT READS IS OF BULK AT MOST 1048576: true; the input reads as it did. -/
def windowPlaysUptoRow : OpenClaim := { program := "ytbajelldegijkaadoor", sum := "9b775876d6af7e8ae2e838a91917bc906410b056a97e81959b66e5bdaecc8210", func := "deltaworks/deltaworkslaw25.WindowPlays", spec := "windowPlays", unfollowed := true, recurses := true, named := ["deltaworks/window.folds"], plainKeys := false, apart := false, laid := [("deltaworks/window.folds", laid_deltaworks_window_folds)], narrowed := true }
def WindowPlaysUptoSaid : Prop := windowPlaysUptoRow.holds Tryd.pinned (OpenSpec.upto windowPlaysSpec)

/-- 'deltaworkslaw25.WindowQueues', WHERE WHAT IT READS IS OF BULK AT MOST 1048576: true; the input reads as it did. -/
def windowQueuesUptoRow : OpenClaim := { program := "ytbajelldegijkaadoor", sum := "9b775876d6af7e8ae2e838a91917bc906410b056a97e81959b66e5bdaecc8210", func := "deltaworks/deltaworkslaw25.WindowQueues", spec := "windowQueues", unfollowed := true, recurses := true, named := ["deltaworks/window.folds"], plainKeys := false, apart := false, laid := [("deltaworks/window.folds", laid_deltaworks_window_folds)], narrowed := true }
def WindowQueuesUptoSaid : Prop := windowQueuesUptoRow.holds Tryd.pinned (OpenSpec.upto windowQueuesSpec)

/-- 'deltaworkslaw25.WindowStream', WHERE WHAT IT READS IS OF BULK AT MOST 1048576: true; the input reads as it did. -/
def windowStreamUptoRow : OpenClaim := { program := "ytbajelldegijkaadoor", sum := "9b775876d6af7e8ae2e838a91917bc906410b056a97e81959b66e5bdaecc8210", func := "deltaworks/deltaworkslaw25.WindowStream", spec := "windowStream", unfollowed := true, recurses := true, named := ["deltaworks/window.folds"], plainKeys := false, apart := false, laid := [("deltaworks/window.folds", laid_deltaworks_window_folds)], narrowed := true }
def WindowStreamUptoSaid : Prop := windowStreamUptoRow.holds Tryd.pinned (OpenSpec.upto windowStreamSpec)

/-- 'deltaworkslaw25.WindowOrders', WHERE WHAT IT READS IS OF BULK AT MOST 1048576: true; the input reads as it did. -/
def windowOrdersUptoRow : OpenClaim := { program := "ytbajelldegijkaadoor", sum := "9b775876d6af7e8ae2e838a91917bc906410b056a97e81959b66e5bdaecc8210", func := "deltaworks/deltaworkslaw25.WindowOrders", spec := "windowOrders", unfollowed := true, recurses := true, named := ["deltaworks/window.folds"], plainKeys := false, apart := false, laid := [("deltaworks/window.folds", laid_deltaworks_window_folds)], narrowed := true }
def WindowOrdersUptoSaid : Prop := windowOrdersUptoRow.holds Tryd.pinned (OpenSpec.upto windowOrdersSpec)

/-- 'deltaworkslaw25.WindowTimes', WHERE WHAT IT READS IS OF BULK AT MOST 1048576: true; the input reads as it did. -/
def windowTimesUptoRow : OpenClaim := { program := "ytbajelldegijkaadoor", sum := "9b775876d6af7e8ae2e838a91917bc906410b056a97e81959b66e5bdaecc8210", func := "deltaworks/deltaworkslaw25.WindowTimes", spec := "windowTimes", unfollowed := true, recurses := true, named := ["deltaworks/window.folds"], plainKeys := false, apart := false, laid := [("deltaworks/window.folds", laid_deltaworks_window_folds)], narrowed := true }
def WindowTimesUptoSaid : Prop := windowTimesUptoRow.holds Tryd.pinned (OpenSpec.upto windowTimesSpec)

/-- 'deltaworkslaw25.WindowCounts', WHERE WHAT IT READS IS OF BULK AT MOST 1048576: true; the input reads as it did. -/
def windowCountsUptoRow : OpenClaim := { program := "ytbajelldegijkaadoor", sum := "9b775876d6af7e8ae2e838a91917bc906410b056a97e81959b66e5bdaecc8210", func := "deltaworks/deltaworkslaw25.WindowCounts", spec := "windowCounts", unfollowed := true, recurses := true, named := ["deltaworks/window.folds"], plainKeys := false, apart := false, laid := [("deltaworks/window.folds", laid_deltaworks_window_folds)], narrowed := true }
def WindowCountsUptoSaid : Prop := windowCountsUptoRow.holds Tryd.pinned (OpenSpec.upto windowCountsSpec)

/-- 'deltaworkslaw25.WindowRolls', WHERE WHAT IT READS IS OF BULK AT MOST 1048576: true; the input reads as it did. -/
def windowRollsUptoRow : OpenClaim := { program := "ytbajelldegijkaadoor", sum := "9b775876d6af7e8ae2e838a91917bc906410b056a97e81959b66e5bdaecc8210", func := "deltaworks/deltaworkslaw25.WindowRolls", spec := "windowRolls", unfollowed := true, recurses := true, named := ["deltaworks/window.folds"], plainKeys := false, apart := false, laid := [("deltaworks/window.folds", laid_deltaworks_window_folds)], narrowed := true }
def WindowRollsUptoSaid : Prop := windowRollsUptoRow.holds Tryd.pinned (OpenSpec.upto windowRollsSpec)

/-- 'deltaworkslaw25.WindowKnown', WHERE WHAT IT READS IS OF BULK AT MOST 1048576: true; the input reads as it did. -/
def windowKnownUptoRow : OpenClaim := { program := "ytbajelldegijkaadoor", sum := "9b775876d6af7e8ae2e838a91917bc906410b056a97e81959b66e5bdaecc8210", func := "deltaworks/deltaworkslaw25.WindowKnown", spec := "windowKnown", unfollowed := true, recurses := true, named := ["deltaworks/window.folds"], plainKeys := false, apart := false, laid := [("deltaworks/window.folds", laid_deltaworks_window_folds)], narrowed := true }
def WindowKnownUptoSaid : Prop := windowKnownUptoRow.holds Tryd.pinned (OpenSpec.upto windowKnownSpec)

end Rows
end Go.Proofs.YtbajelldegijkaaDoor
