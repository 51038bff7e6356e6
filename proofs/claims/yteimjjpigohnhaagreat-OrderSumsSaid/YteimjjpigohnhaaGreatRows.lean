/-
  No cell of these rows narrows 'for every input' (looked for: loops, veiled, ifaces, maps, wideKeys, modest, calm, conditions, laid).
  DERIVED. THE GIVEN ROWS OF THIS SEAT. 10 by the template 'for every input the law returns true; each argument reads behind the call as it read before'; 0 by the template 'total and deterministic' (their statements: YteimjjpigohnhaaGreatTotals.lean).
  GIVEN WITH THE SEED: the statements are not yours to turn. If you find one false, say at which input.
  Laid BY PROGRAM, IN A SANDBOX (cutbox-rows.mjs): the forced cells as the released guide's own fill.sh prints them over the translation a82a53fb10c5944e… (all of the seat's roots in one cut). By AI agents, Wed Nov 11 2026. No macro, syntax, notation, axiom, sorry.
-/
import Derived.Test.YteimjjpigohnhaaGreatChecked
import GoSem.Claim
import GoSem.ClaimJoined
import GoSem.ClaimMapViews
import Derived.JoinedTies
import Derived.KernelRfl
namespace Go.Proofs.YteimjjpigohnhaaGreat
/- THE CELL 'sum', in the pinned program and in every row, IS THE sha256 OF THE DUMP (.gsa) THAT YteimjjpigohnhaaGreatProg.lean LOADS. Nothing in Lean hashes anything: it is a label: what it is worth is what the hold of that sum in a sandbox is worth. -/
noncomputable def Tryz.pinned : Pinned := { name := "yteimjjpigohnhaagreat", sum := "a82a53fb10c5944e8293d036ccb165f0351ccaccb833545b2b328db111f9886f", checked := Tryz.checked }
namespace Rows
def none {H : Type} : Left H := { results := [], args := [] }

/-- 'deltaworkslaw21.OrderSums': WHATEVER THE INPUT: true; the input reads as it did. -/
def orderSumsSpec : ChangeSpec := { name := "orderSums", fn := fun _ => fun
  | [d1, d2, d3, d4] => { results := [.lit (.bool true)], args := [d1, d2, d3, d4] }
  | _ => none }
def orderSumsRow : OpenClaim := { program := "yteimjjpigohnhaagreat", sum := "a82a53fb10c5944e8293d036ccb165f0351ccaccb833545b2b328db111f9886f", func := "deltaworks/deltaworkslaw21.OrderSums", spec := "orderSums", unfollowed := true, recurses := true, plainKeys := false, apart := false }
def OrderSumsSaid : Prop := orderSumsRow.holds Tryz.pinned (OpenSpec.ofChange orderSumsSpec)

/-- ITS FALSE NEIGHBOUR: 'it returns false'. Refute it at one input. -/
def orderSumsWrong : ChangeSpec := { name := "orderSums", fn := fun _ => fun
  | [d1, d2, d3, d4] => { results := [.lit (.bool false)], args := [d1, d2, d3, d4] }
  | _ => none }
def OrderSumsWrongFalsely : Prop := orderSumsRow.holds Tryz.pinned (OpenSpec.ofChange orderSumsWrong)

/-- 'deltaworkslaw21.OrderKnown': WHATEVER THE INPUT: true; the input reads as it did. -/
def orderKnownSpec : ChangeSpec := { name := "orderKnown", fn := fun _ => fun
  | [] => { results := [.lit (.bool true)], args := [] }
  | _ => none }
def orderKnownRow : OpenClaim := { program := "yteimjjpigohnhaagreat", sum := "a82a53fb10c5944e8293d036ccb165f0351ccaccb833545b2b328db111f9886f", func := "deltaworks/deltaworkslaw21.OrderKnown", spec := "orderKnown", unfollowed := true, recurses := true, plainKeys := false, apart := false }
def OrderKnownSaid : Prop := orderKnownRow.holds Tryz.pinned (OpenSpec.ofChange orderKnownSpec)

/-- ITS FALSE NEIGHBOUR: 'it returns false'. Refute it at one input. -/
def orderKnownWrong : ChangeSpec := { name := "orderKnown", fn := fun _ => fun
  | [] => { results := [.lit (.bool false)], args := [] }
  | _ => none }
def OrderKnownWrongFalsely : Prop := orderKnownRow.holds Tryz.pinned (OpenSpec.ofChange orderKnownWrong)

/-- 'deltaworkslaw21.OrderTells': WHATEVER THE INPUT: true; the input reads as it did. -/
def orderTellsSpec : ChangeSpec := { name := "orderTells", fn := fun _ => fun
  | [d1, d2, d3] => { results := [.lit (.bool true)], args := [d1, d2, d3] }
  | _ => none }
def orderTellsRow : OpenClaim := { program := "yteimjjpigohnhaagreat", sum := "a82a53fb10c5944e8293d036ccb165f0351ccaccb833545b2b328db111f9886f", func := "deltaworks/deltaworkslaw21.OrderTells", spec := "orderTells", unfollowed := true, recurses := true, plainKeys := false, apart := false }
def OrderTellsSaid : Prop := orderTellsRow.holds Tryz.pinned (OpenSpec.ofChange orderTellsSpec)

/-- ITS FALSE NEIGHBOUR: 'it returns false'. Refute it at one input. -/
def orderTellsWrong : ChangeSpec := { name := "orderTells", fn := fun _ => fun
  | [d1, d2, d3] => { results := [.lit (.bool false)], args := [d1, d2, d3] }
  | _ => none }
def OrderTellsWrongFalsely : Prop := orderTellsRow.holds Tryz.pinned (OpenSpec.ofChange orderTellsWrong)

/-- 'deltaworkslaw21.OrderFrontiers': WHATEVER THE INPUT: true; the input reads as it did. -/
def orderFrontiersSpec : ChangeSpec := { name := "orderFrontiers", fn := fun _ => fun
  | [d1, d2, d3] => { results := [.lit (.bool true)], args := [d1, d2, d3] }
  | _ => none }
def orderFrontiersRow : OpenClaim := { program := "yteimjjpigohnhaagreat", sum := "a82a53fb10c5944e8293d036ccb165f0351ccaccb833545b2b328db111f9886f", func := "deltaworks/deltaworkslaw21.OrderFrontiers", spec := "orderFrontiers", unfollowed := true, recurses := true, plainKeys := false, apart := false }
def OrderFrontiersSaid : Prop := orderFrontiersRow.holds Tryz.pinned (OpenSpec.ofChange orderFrontiersSpec)

/-- ITS FALSE NEIGHBOUR: 'it returns false'. Refute it at one input. -/
def orderFrontiersWrong : ChangeSpec := { name := "orderFrontiers", fn := fun _ => fun
  | [d1, d2, d3] => { results := [.lit (.bool false)], args := [d1, d2, d3] }
  | _ => none }
def OrderFrontiersWrongFalsely : Prop := orderFrontiersRow.holds Tryz.pinned (OpenSpec.ofChange orderFrontiersWrong)

/-- 'deltaworkslaw21.OrderChains': WHATEVER THE INPUT: true; the input reads as it did. -/
def orderChainsSpec : ChangeSpec := { name := "orderChains", fn := fun _ => fun
  | [d] => { results := [.lit (.bool true)], args := [d] }
  | _ => none }
def orderChainsRow : OpenClaim := { program := "yteimjjpigohnhaagreat", sum := "a82a53fb10c5944e8293d036ccb165f0351ccaccb833545b2b328db111f9886f", func := "deltaworks/deltaworkslaw21.OrderChains", spec := "orderChains", unfollowed := true, recurses := true, plainKeys := false, apart := false }
def OrderChainsSaid : Prop := orderChainsRow.holds Tryz.pinned (OpenSpec.ofChange orderChainsSpec)

/-- ITS FALSE NEIGHBOUR: 'it returns false'. Refute it at one input. -/
def orderChainsWrong : ChangeSpec := { name := "orderChains", fn := fun _ => fun
  | [d] => { results := [.lit (.bool false)], args := [d] }
  | _ => none }
def OrderChainsWrongFalsely : Prop := orderChainsRow.holds Tryz.pinned (OpenSpec.ofChange orderChainsWrong)

/-- 'deltaworkslaw21.OrderBoxes': WHATEVER THE INPUT: true; the input reads as it did. -/
def orderBoxesSpec : ChangeSpec := { name := "orderBoxes", fn := fun _ => fun
  | [d1, d2] => { results := [.lit (.bool true)], args := [d1, d2] }
  | _ => none }
def orderBoxesRow : OpenClaim := { program := "yteimjjpigohnhaagreat", sum := "a82a53fb10c5944e8293d036ccb165f0351ccaccb833545b2b328db111f9886f", func := "deltaworks/deltaworkslaw21.OrderBoxes", spec := "orderBoxes", unfollowed := true, recurses := true, plainKeys := false, apart := false }
def OrderBoxesSaid : Prop := orderBoxesRow.holds Tryz.pinned (OpenSpec.ofChange orderBoxesSpec)

/-- ITS FALSE NEIGHBOUR: 'it returns false'. Refute it at one input. -/
def orderBoxesWrong : ChangeSpec := { name := "orderBoxes", fn := fun _ => fun
  | [d1, d2] => { results := [.lit (.bool false)], args := [d1, d2] }
  | _ => none }
def OrderBoxesWrongFalsely : Prop := orderBoxesRow.holds Tryz.pinned (OpenSpec.ofChange orderBoxesWrong)

/-- 'deltaworkslaw21.OrderLattice': WHATEVER THE INPUT: true; the input reads as it did. -/
def orderLatticeSpec : ChangeSpec := { name := "orderLattice", fn := fun _ => fun
  | [d1, d2] => { results := [.lit (.bool true)], args := [d1, d2] }
  | _ => none }
def orderLatticeRow : OpenClaim := { program := "yteimjjpigohnhaagreat", sum := "a82a53fb10c5944e8293d036ccb165f0351ccaccb833545b2b328db111f9886f", func := "deltaworks/deltaworkslaw21.OrderLattice", spec := "orderLattice", unfollowed := true, recurses := true, plainKeys := false, apart := false }
def OrderLatticeSaid : Prop := orderLatticeRow.holds Tryz.pinned (OpenSpec.ofChange orderLatticeSpec)

/-- ITS FALSE NEIGHBOUR: 'it returns false'. Refute it at one input. -/
def orderLatticeWrong : ChangeSpec := { name := "orderLattice", fn := fun _ => fun
  | [d1, d2] => { results := [.lit (.bool false)], args := [d1, d2] }
  | _ => none }
def OrderLatticeWrongFalsely : Prop := orderLatticeRow.holds Tryz.pinned (OpenSpec.ofChange orderLatticeWrong)

/-- 'deltaworkslaw21.OrderFirsts': WHATEVER THE INPUT: true; the input reads as it did. -/
def orderFirstsSpec : ChangeSpec := { name := "orderFirsts", fn := fun _ => fun
  | [d1, d2, d3] => { results := [.lit (.bool true)], args := [d1, d2, d3] }
  | _ => none }
def orderFirstsRow : OpenClaim := { program := "yteimjjpigohnhaagreat", sum := "a82a53fb10c5944e8293d036ccb165f0351ccaccb833545b2b328db111f9886f", func := "deltaworks/deltaworkslaw21.OrderFirsts", spec := "orderFirsts", unfollowed := true, recurses := true, plainKeys := false, apart := false }
def OrderFirstsSaid : Prop := orderFirstsRow.holds Tryz.pinned (OpenSpec.ofChange orderFirstsSpec)

/-- ITS FALSE NEIGHBOUR: 'it returns false'. Refute it at one input. -/
def orderFirstsWrong : ChangeSpec := { name := "orderFirsts", fn := fun _ => fun
  | [d1, d2, d3] => { results := [.lit (.bool false)], args := [d1, d2, d3] }
  | _ => none }
def OrderFirstsWrongFalsely : Prop := orderFirstsRow.holds Tryz.pinned (OpenSpec.ofChange orderFirstsWrong)

/-- 'deltaworkslaw21.OrderLaws': WHATEVER THE INPUT: true; the input reads as it did. -/
def orderLawsSpec : ChangeSpec := { name := "orderLaws", fn := fun _ => fun
  | [d1, d2, d3, d4] => { results := [.lit (.bool true)], args := [d1, d2, d3, d4] }
  | _ => none }
def orderLawsRow : OpenClaim := { program := "yteimjjpigohnhaagreat", sum := "a82a53fb10c5944e8293d036ccb165f0351ccaccb833545b2b328db111f9886f", func := "deltaworks/deltaworkslaw21.OrderLaws", spec := "orderLaws", unfollowed := true, recurses := true, plainKeys := false, apart := false }
def OrderLawsSaid : Prop := orderLawsRow.holds Tryz.pinned (OpenSpec.ofChange orderLawsSpec)

/-- ITS FALSE NEIGHBOUR: 'it returns false'. Refute it at one input. -/
def orderLawsWrong : ChangeSpec := { name := "orderLaws", fn := fun _ => fun
  | [d1, d2, d3, d4] => { results := [.lit (.bool false)], args := [d1, d2, d3, d4] }
  | _ => none }
def OrderLawsWrongFalsely : Prop := orderLawsRow.holds Tryz.pinned (OpenSpec.ofChange orderLawsWrong)

/-- 'deltaworkslaw21.OrderSeen': WHATEVER THE INPUT: true; the input reads as it did. -/
def orderSeenSpec : ChangeSpec := { name := "orderSeen", fn := fun _ => fun
  | [d1, d2, d3, d4] => { results := [.lit (.bool true)], args := [d1, d2, d3, d4] }
  | _ => none }
def orderSeenRow : OpenClaim := { program := "yteimjjpigohnhaagreat", sum := "a82a53fb10c5944e8293d036ccb165f0351ccaccb833545b2b328db111f9886f", func := "deltaworks/deltaworkslaw21.OrderSeen", spec := "orderSeen", unfollowed := true, recurses := true, plainKeys := false, apart := false }
def OrderSeenSaid : Prop := orderSeenRow.holds Tryz.pinned (OpenSpec.ofChange orderSeenSpec)

/-- ITS FALSE NEIGHBOUR: 'it returns false'. Refute it at one input. -/
def orderSeenWrong : ChangeSpec := { name := "orderSeen", fn := fun _ => fun
  | [d1, d2, d3, d4] => { results := [.lit (.bool false)], args := [d1, d2, d3, d4] }
  | _ => none }
def OrderSeenWrongFalsely : Prop := orderSeenRow.holds Tryz.pinned (OpenSpec.ofChange orderSeenWrong)

/- THE SECOND FORM. 'bulk': how many values and letters a reading holds, each counted each time it is reached (what is shared counts as often as it is met; a slice's spare places count too). A statement '..UptoSaid' is the law's where the arguments, and the package variables that the reading takes, are together of bulk at most 1048576: NARROWER than '..Said'. Prove '..Said' where nothing that the law and all that it calls make is longer than what came in: it says more and counts as full. Else prove '..UptoSaid'. A law counts once. -/
mutual
def uptoBulk {H : Type} : DataW H → Nat
  | .lit (.string bytes) => bytes.length + 1
  | .lit _ => 1
  | .nil => 1
  | .ptr d => uptoBulk d + 1
  | .slice elems spare => uptoBulkAll elems + uptoBulkAll spare + 1
  | .agg parts => uptoBulkAll parts + 1
  | .iface _ d => uptoBulk d + 1
  | .map entries => uptoBulkEntries entries + 1
  | .held _ => 1
def uptoBulkAll {H : Type} : List (DataW H) → Nat
  | [] => 0
  | d :: r => uptoBulk d + uptoBulkAll r
def uptoBulkEntries {H : Type} : List (Lit × DataW H) → Nat
  | [] => 0
  | x :: r => uptoBulkEntry x + uptoBulkEntries r
def uptoBulkEntry {H : Type} : Lit × DataW H → Nat
  | (.string bytes, d) => bytes.length + uptoBulk d + 1
  | (_, d) => uptoBulk d + 1
 end
def uptoSmall : (H : Type) → List (DataW H) → Bool := fun _ ds => decide (uptoBulkAll ds ≤ 1048576)
def OpenSpec.upto (s : _root_.Go.ChangeSpec) : _root_.Go.OpenSpec := { _root_.Go.OpenSpec.ofChange s with cond := some uptoSmall }

/-- 'deltaworkslaw21.OrderSums', WHERE WHAT IT READS IS OF BULK AT MOST 1048576: true; the input reads as it did. -/
def orderSumsUptoRow : OpenClaim := { program := "yteimjjpigohnhaagreat", sum := "a82a53fb10c5944e8293d036ccb165f0351ccaccb833545b2b328db111f9886f", func := "deltaworks/deltaworkslaw21.OrderSums", spec := "orderSums", unfollowed := true, recurses := true, plainKeys := false, apart := false, narrowed := true }
def OrderSumsUptoSaid : Prop := orderSumsUptoRow.holds Tryz.pinned (OpenSpec.upto orderSumsSpec)

/-- 'deltaworkslaw21.OrderKnown', WHERE WHAT IT READS IS OF BULK AT MOST 1048576: true; the input reads as it did. -/
def orderKnownUptoRow : OpenClaim := { program := "yteimjjpigohnhaagreat", sum := "a82a53fb10c5944e8293d036ccb165f0351ccaccb833545b2b328db111f9886f", func := "deltaworks/deltaworkslaw21.OrderKnown", spec := "orderKnown", unfollowed := true, recurses := true, plainKeys := false, apart := false, narrowed := true }
def OrderKnownUptoSaid : Prop := orderKnownUptoRow.holds Tryz.pinned (OpenSpec.upto orderKnownSpec)

/-- 'deltaworkslaw21.OrderTells', WHERE WHAT IT READS IS OF BULK AT MOST 1048576: true; the input reads as it did. -/
def orderTellsUptoRow : OpenClaim := { program := "yteimjjpigohnhaagreat", sum := "a82a53fb10c5944e8293d036ccb165f0351ccaccb833545b2b328db111f9886f", func := "deltaworks/deltaworkslaw21.OrderTells", spec := "orderTells", unfollowed := true, recurses := true, plainKeys := false, apart := false, narrowed := true }
def OrderTellsUptoSaid : Prop := orderTellsUptoRow.holds Tryz.pinned (OpenSpec.upto orderTellsSpec)

/-- 'deltaworkslaw21.OrderFrontiers', WHERE WHAT IT READS IS OF BULK AT MOST 1048576: true; the input reads as it did. -/
def orderFrontiersUptoRow : OpenClaim := { program := "yteimjjpigohnhaagreat", sum := "a82a53fb10c5944e8293d036ccb165f0351ccaccb833545b2b328db111f9886f", func := "deltaworks/deltaworkslaw21.OrderFrontiers", spec := "orderFrontiers", unfollowed := true, recurses := true, plainKeys := false, apart := false, narrowed := true }
def OrderFrontiersUptoSaid : Prop := orderFrontiersUptoRow.holds Tryz.pinned (OpenSpec.upto orderFrontiersSpec)

/-- 'deltaworkslaw21.OrderChains', WHERE WHAT IT READS IS OF BULK AT MOST 1048576: true; the input reads as it did. -/
def orderChainsUptoRow : OpenClaim := { program := "yteimjjpigohnhaagreat", sum := "a82a53fb10c5944e8293d036ccb165f0351ccaccb833545b2b328db111f9886f", func := "deltaworks/deltaworkslaw21.OrderChains", spec := "orderChains", unfollowed := true, recurses := true, plainKeys := false, apart := false, narrowed := true }
def OrderChainsUptoSaid : Prop := orderChainsUptoRow.holds Tryz.pinned (OpenSpec.upto orderChainsSpec)

/-- 'deltaworkslaw21.OrderBoxes', WHERE WHAT IT READS IS OF BULK AT MOST 1048576: true; the input reads as it did. -/
def orderBoxesUptoRow : OpenClaim := { program := "yteimjjpigohnhaagreat", sum := "a82a53fb10c5944e8293d036ccb165f0351ccaccb833545b2b328db111f9886f", func := "deltaworks/deltaworkslaw21.OrderBoxes", spec := "orderBoxes", unfollowed := true, recurses := true, plainKeys := false, apart := false, narrowed := true }
def OrderBoxesUptoSaid : Prop := orderBoxesUptoRow.holds Tryz.pinned (OpenSpec.upto orderBoxesSpec)

/-- 'deltaworkslaw21.OrderLattice', WHERE WHAT IT READS IS OF BULK AT MOST 1048576: true; the input reads as it did. -/
def orderLatticeUptoRow : OpenClaim := { program := "yteimjjpigohnhaagreat", sum := "a82a53fb10c5944e8293d036ccb165f0351ccaccb833545b2b328db111f9886f", func := "deltaworks/deltaworkslaw21.OrderLattice", spec := "orderLattice", unfollowed := true, recurses := true, plainKeys := false, apart := false, narrowed := true }
def OrderLatticeUptoSaid : Prop := orderLatticeUptoRow.holds Tryz.pinned (OpenSpec.upto orderLatticeSpec)

/-- 'deltaworkslaw21.OrderFirsts', WHERE WHAT IT READS IS OF BULK AT MOST 1048576: true; the input reads as it did. -/
def orderFirstsUptoRow : OpenClaim := { program := "yteimjjpigohnhaagreat", sum := "a82a53fb10c5944e8293d036ccb165f0351ccaccb833545b2b328db111f9886f", func := "deltaworks/deltaworkslaw21.OrderFirsts", spec := "orderFirsts", unfollowed := true, recurses := true, plainKeys := false, apart := false, narrowed := true }
def OrderFirstsUptoSaid : Prop := orderFirstsUptoRow.holds Tryz.pinned (OpenSpec.upto orderFirstsSpec)

/-- 'deltaworkslaw21.OrderLaws', WHERE WHAT IT READS IS OF BULK AT MOST 1048576: true; the input reads as it did. -/
def orderLawsUptoRow : OpenClaim := { program := "yteimjjpigohnhaagreat", sum := "a82a53fb10c5944e8293d036ccb165f0351ccaccb833545b2b328db111f9886f", func := "deltaworks/deltaworkslaw21.OrderLaws", spec := "orderLaws", unfollowed := true, recurses := true, plainKeys := false, apart := false, narrowed := true }
def OrderLawsUptoSaid : Prop := orderLawsUptoRow.holds Tryz.pinned (OpenSpec.upto orderLawsSpec)

/-- 'deltaworkslaw21.OrderSeen', WHERE WHAT IT READS IS OF BULK AT MOST 1048576: true; the input reads as it did. -/
def orderSeenUptoRow : OpenClaim := { program := "yteimjjpigohnhaagreat", sum := "a82a53fb10c5944e8293d036ccb165f0351ccaccb833545b2b328db111f9886f", func := "deltaworks/deltaworkslaw21.OrderSeen", spec := "orderSeen", unfollowed := true, recurses := true, plainKeys := false, apart := false, narrowed := true }
def OrderSeenUptoSaid : Prop := orderSeenUptoRow.holds Tryz.pinned (OpenSpec.upto orderSeenSpec)

end Rows
end Go.Proofs.YteimjjpigohnhaaGreat
