/-
  NARROWER THAN 'FOR EVERY INPUT', by the rows' own cells (each row's printed sentence says how): SchedTells: laid · SchedScratch: laid · SchedAnyOrder: laid · SchedBehind: laid · SchedLittle: laid · SchedLazy: laid · SchedNames: laid.
  DERIVED. THE GIVEN ROWS OF THIS SEAT. 7 by the template 'for every input the law returns true; each argument reads behind the call as it read before'; 0 by the template 'total and deterministic' (their statements: YtefkmiomldhmjaaDoorTotals.lean).
  GIVEN WITH THE SEED: the statements are not yours to turn. If you find one false, say at which input.
  Laid BY PROGRAM, IN A SANDBOX (cutbox-rows.mjs): the forced cells as the released guide's own fill.sh prints them over the translation 1783b8a217f50ee3… (all of the seat's roots in one cut). By AI agents, Wed Nov 11 2026. No macro, syntax, notation, axiom, sorry.
-/
import Derived.Test.YtefkmiomldhmjaaDoorChecked
import GoSem.Claim
import GoSem.ClaimJoined
import GoSem.ClaimMapViews
import Derived.JoinedTies
import Derived.KernelRfl
namespace Go.Proofs.YtefkmiomldhmjaaDoor
/- THE CELL 'sum', in the pinned program and in every row, IS THE sha256 OF THE DUMP (.gsa) THAT YtefkmiomldhmjaaDoorProg.lean LOADS. Nothing in Lean hashes anything: it is a label: what it is worth is what the hold of that sum in a sandbox is worth. -/
noncomputable def Tryd.pinned : Pinned := { name := "ytefkmiomldhmjaadoor", sum := "1783b8a217f50ee3c69e1506766d57d0a07616252bf07876e07dde4e5e6b4b51", checked := Tryd.checked }
namespace Rows
def none {H : Type} : Left H := { results := [], args := [] }

/- WHAT THE LISTED PACKAGE-LEVEL VARIABLES READ AS WHEN THE CALL BEGINS. Each datum BY PROGRAM (the guide's laid-datum.mjs) off the statement by which the dump's own 'gosem.cut.vars' lays the variable. In a bare row this is a premise. The card (YtefkmiomldhmjaaDoorCards.lean) ties it to the program's text. -/
def laid_deltaworks_sched_kinds {H : Type} : DataW H := .iface "func table" (.agg [.agg [.lit (.int .i64 0), .lit (.int .i64 (-2147483648)), .iface "func" (.lit (.string [40, 100, 101, 108, 116, 97, 119, 111, 114, 107, 115, 47, 115, 99, 104, 101, 100, 46, 110, 111, 100, 101, 41, 46, 105, 110, 112, 117, 116]))], .agg [.lit (.int .i64 1), .lit (.int .i64 (-2147483648)), .iface "func" (.lit (.string [40, 100, 101, 108, 116, 97, 119, 111, 114, 107, 115, 47, 115, 99, 104, 101, 100, 46, 110, 111, 100, 101, 41, 46, 116, 111, 116, 97, 108]))], .agg [.lit (.int .i64 1), .lit (.int .i64 (-2147483648)), .iface "func" (.lit (.string [100, 101, 108, 116, 97, 119, 111, 114, 107, 115, 47, 115, 99, 104, 101, 100, 46, 107, 105, 110, 100, 115, 36, 49]))], .agg [.lit (.int .i64 1), .lit (.int .i64 1), .iface "func" (.lit (.string [40, 100, 101, 108, 116, 97, 119, 111, 114, 107, 115, 47, 115, 99, 104, 101, 100, 46, 110, 111, 100, 101, 41, 46, 114, 101, 115, 116]))]])

/-- 'deltaworkslaw26.SchedTells': WHATEVER THE INPUT: true; the input reads as it did. -/
def schedTellsSpec : ChangeSpec := { name := "schedTells", fn := fun _ => fun
  | [d1, d2, d3, d4] => { results := [.lit (.bool true)], args := [d1, d2, d3, d4] }
  | _ => none }
def schedTellsRow : OpenClaim := { program := "ytefkmiomldhmjaadoor", sum := "1783b8a217f50ee3c69e1506766d57d0a07616252bf07876e07dde4e5e6b4b51", func := "deltaworks/deltaworkslaw26.SchedTells", spec := "schedTells", unfollowed := true, recurses := true, named := ["deltaworks/sched.kinds"], plainKeys := false, apart := false, laid := [("deltaworks/sched.kinds", laid_deltaworks_sched_kinds)] }
def SchedTellsSaid : Prop := schedTellsRow.holds Tryd.pinned (OpenSpec.ofChange schedTellsSpec)

/-- ITS FALSE NEIGHBOUR: 'it returns false'. Refute it at one input. -/
def schedTellsWrong : ChangeSpec := { name := "schedTells", fn := fun _ => fun
  | [d1, d2, d3, d4] => { results := [.lit (.bool false)], args := [d1, d2, d3, d4] }
  | _ => none }
def SchedTellsWrongFalsely : Prop := schedTellsRow.holds Tryd.pinned (OpenSpec.ofChange schedTellsWrong)

/-- 'deltaworkslaw26.SchedScratch': WHATEVER THE INPUT: true; the input reads as it did. -/
def schedScratchSpec : ChangeSpec := { name := "schedScratch", fn := fun _ => fun
  | [d1, d2, d3] => { results := [.lit (.bool true)], args := [d1, d2, d3] }
  | _ => none }
def schedScratchRow : OpenClaim := { program := "ytefkmiomldhmjaadoor", sum := "1783b8a217f50ee3c69e1506766d57d0a07616252bf07876e07dde4e5e6b4b51", func := "deltaworks/deltaworkslaw26.SchedScratch", spec := "schedScratch", unfollowed := true, recurses := true, named := ["deltaworks/sched.kinds"], plainKeys := false, apart := false, laid := [("deltaworks/sched.kinds", laid_deltaworks_sched_kinds)] }
def SchedScratchSaid : Prop := schedScratchRow.holds Tryd.pinned (OpenSpec.ofChange schedScratchSpec)

/-- ITS FALSE NEIGHBOUR: 'it returns false'. Refute it at one input. -/
def schedScratchWrong : ChangeSpec := { name := "schedScratch", fn := fun _ => fun
  | [d1, d2, d3] => { results := [.lit (.bool false)], args := [d1, d2, d3] }
  | _ => none }
def SchedScratchWrongFalsely : Prop := schedScratchRow.holds Tryd.pinned (OpenSpec.ofChange schedScratchWrong)

/-- 'deltaworkslaw26.SchedAnyOrder': WHATEVER THE INPUT: true; the input reads as it did. -/
def schedAnyOrderSpec : ChangeSpec := { name := "schedAnyOrder", fn := fun _ => fun
  | [d1, d2, d3, d4] => { results := [.lit (.bool true)], args := [d1, d2, d3, d4] }
  | _ => none }
def schedAnyOrderRow : OpenClaim := { program := "ytefkmiomldhmjaadoor", sum := "1783b8a217f50ee3c69e1506766d57d0a07616252bf07876e07dde4e5e6b4b51", func := "deltaworks/deltaworkslaw26.SchedAnyOrder", spec := "schedAnyOrder", unfollowed := true, recurses := true, named := ["deltaworks/sched.kinds"], plainKeys := false, apart := false, laid := [("deltaworks/sched.kinds", laid_deltaworks_sched_kinds)] }
def SchedAnyOrderSaid : Prop := schedAnyOrderRow.holds Tryd.pinned (OpenSpec.ofChange schedAnyOrderSpec)

/-- ITS FALSE NEIGHBOUR: 'it returns false'. Refute it at one input. -/
def schedAnyOrderWrong : ChangeSpec := { name := "schedAnyOrder", fn := fun _ => fun
  | [d1, d2, d3, d4] => { results := [.lit (.bool false)], args := [d1, d2, d3, d4] }
  | _ => none }
def SchedAnyOrderWrongFalsely : Prop := schedAnyOrderRow.holds Tryd.pinned (OpenSpec.ofChange schedAnyOrderWrong)

/-- 'deltaworkslaw26.SchedBehind': WHATEVER THE INPUT: true; the input reads as it did. -/
def schedBehindSpec : ChangeSpec := { name := "schedBehind", fn := fun _ => fun
  | [d1, d2, d3] => { results := [.lit (.bool true)], args := [d1, d2, d3] }
  | _ => none }
def schedBehindRow : OpenClaim := { program := "ytefkmiomldhmjaadoor", sum := "1783b8a217f50ee3c69e1506766d57d0a07616252bf07876e07dde4e5e6b4b51", func := "deltaworks/deltaworkslaw26.SchedBehind", spec := "schedBehind", unfollowed := true, recurses := true, named := ["deltaworks/sched.kinds"], plainKeys := false, apart := false, laid := [("deltaworks/sched.kinds", laid_deltaworks_sched_kinds)] }
def SchedBehindSaid : Prop := schedBehindRow.holds Tryd.pinned (OpenSpec.ofChange schedBehindSpec)

/-- ITS FALSE NEIGHBOUR: 'it returns false'. Refute it at one input. -/
def schedBehindWrong : ChangeSpec := { name := "schedBehind", fn := fun _ => fun
  | [d1, d2, d3] => { results := [.lit (.bool false)], args := [d1, d2, d3] }
  | _ => none }
def SchedBehindWrongFalsely : Prop := schedBehindRow.holds Tryd.pinned (OpenSpec.ofChange schedBehindWrong)

/-- 'deltaworkslaw26.SchedLittle': WHATEVER THE INPUT: true; the input reads as it did. -/
def schedLittleSpec : ChangeSpec := { name := "schedLittle", fn := fun _ => fun
  | [d1, d2, d3] => { results := [.lit (.bool true)], args := [d1, d2, d3] }
  | _ => none }
def schedLittleRow : OpenClaim := { program := "ytefkmiomldhmjaadoor", sum := "1783b8a217f50ee3c69e1506766d57d0a07616252bf07876e07dde4e5e6b4b51", func := "deltaworks/deltaworkslaw26.SchedLittle", spec := "schedLittle", unfollowed := true, recurses := true, named := ["deltaworks/sched.kinds"], plainKeys := false, apart := false, laid := [("deltaworks/sched.kinds", laid_deltaworks_sched_kinds)] }
def SchedLittleSaid : Prop := schedLittleRow.holds Tryd.pinned (OpenSpec.ofChange schedLittleSpec)

/-- ITS FALSE NEIGHBOUR: 'it returns false'. Refute it at one input. -/
def schedLittleWrong : ChangeSpec := { name := "schedLittle", fn := fun _ => fun
  | [d1, d2, d3] => { results := [.lit (.bool false)], args := [d1, d2, d3] }
  | _ => none }
def SchedLittleWrongFalsely : Prop := schedLittleRow.holds Tryd.pinned (OpenSpec.ofChange schedLittleWrong)

/-- 'deltaworkslaw26.SchedLazy': WHATEVER THE INPUT: true; the input reads as it did. -/
def schedLazySpec : ChangeSpec := { name := "schedLazy", fn := fun _ => fun
  | [d1, d2, d3] => { results := [.lit (.bool true)], args := [d1, d2, d3] }
  | _ => none }
def schedLazyRow : OpenClaim := { program := "ytefkmiomldhmjaadoor", sum := "1783b8a217f50ee3c69e1506766d57d0a07616252bf07876e07dde4e5e6b4b51", func := "deltaworks/deltaworkslaw26.SchedLazy", spec := "schedLazy", unfollowed := true, recurses := true, named := ["deltaworks/sched.kinds"], plainKeys := false, apart := false, laid := [("deltaworks/sched.kinds", laid_deltaworks_sched_kinds)] }
def SchedLazySaid : Prop := schedLazyRow.holds Tryd.pinned (OpenSpec.ofChange schedLazySpec)

/-- ITS FALSE NEIGHBOUR: 'it returns false'. Refute it at one input. -/
def schedLazyWrong : ChangeSpec := { name := "schedLazy", fn := fun _ => fun
  | [d1, d2, d3] => { results := [.lit (.bool false)], args := [d1, d2, d3] }
  | _ => none }
def SchedLazyWrongFalsely : Prop := schedLazyRow.holds Tryd.pinned (OpenSpec.ofChange schedLazyWrong)

/-- 'deltaworkslaw26.SchedNames': WHATEVER THE INPUT: true; the input reads as it did. -/
def schedNamesSpec : ChangeSpec := { name := "schedNames", fn := fun _ => fun
  | [] => { results := [.lit (.bool true)], args := [] }
  | _ => none }
def schedNamesRow : OpenClaim := { program := "ytefkmiomldhmjaadoor", sum := "1783b8a217f50ee3c69e1506766d57d0a07616252bf07876e07dde4e5e6b4b51", func := "deltaworks/deltaworkslaw26.SchedNames", spec := "schedNames", unfollowed := true, recurses := true, named := ["deltaworks/sched.kinds"], plainKeys := false, apart := false, laid := [("deltaworks/sched.kinds", laid_deltaworks_sched_kinds)] }
def SchedNamesSaid : Prop := schedNamesRow.holds Tryd.pinned (OpenSpec.ofChange schedNamesSpec)

/-- ITS FALSE NEIGHBOUR: 'it returns false'. Refute it at one input. -/
def schedNamesWrong : ChangeSpec := { name := "schedNames", fn := fun _ => fun
  | [] => { results := [.lit (.bool false)], args := [] }
  | _ => none }
def SchedNamesWrongFalsely : Prop := schedNamesRow.holds Tryd.pinned (OpenSpec.ofChange schedNamesWrong)

/- THE SECOND FORM. 'bulk': how many values and letters a reading holds, each counted each time it is reached (what is shared counts as often as it is met; a slice's spare places count too). A statement '..UptoSaid' is the law's where the arguments, and the package variables that the reading takes, are together of bulk at most 1048576: NARROWER than '..Said'. Prove '..Said' where nothing that the law and all that it calls make is longer than what came in: it says more and counts as full. Else prove '..UptoSaid'. A law counts once. -/
mutual
def uptoBulk {H : Type} : DataW H → Nat
  | .lit (.string bytes) => bytes.length + 1
  | .lit _ => 1
  | .nil => 1
  | .ptr d => uptoBulk d + 1
  | .slice elems spare => uptoBulkAll elems + uptoBulkAll spare + 1
  | .agg parts => uptoBulkAll parts + 1
  | .iface _ d => uptoBulk d + 1
  | .map entries => uptoBulkEntries entries + 1
  | .held _ => 1
def uptoBulkAll {H : Type} : List (DataW H) → Nat
  | [] => 0
  | d :: r => uptoBulk d + uptoBulkAll r
def uptoBulkEntries {H : Type} : List (Lit × DataW H) → Nat
  | [] => 0
  | x :: r => uptoBulkEntry x + uptoBulkEntries r
def uptoBulkEntry {H : Type} : Lit × DataW H → Nat
  | (.string bytes, d) => bytes.length + uptoBulk d + 1
  | (_, d) => uptoBulk d + 1
 end
def uptoSmall : (H : Type) → List (DataW H) → Bool := fun _ ds => decide (uptoBulkAll ds ≤ 1048576)
def OpenSpec.upto (s : _root_.Go.ChangeSpec) : _root_.Go.OpenSpec := { _root_.Go.OpenSpec.ofChange s with cond := some uptoSmall }

/-- 'deltaworkslaw26.SchedTells', WHERE WHAT IT READS IS OF BULK AT MOST 1048576: true; the input reads as it did. -/
def schedTellsUptoRow : OpenClaim := { program := "ytefkmiomldhmjaadoor", sum := "1783b8a217f50ee3c69e1506766d57d0a07616252bf07876e07dde4e5e6b4b51", func := "deltaworks/deltaworkslaw26.SchedTells", spec := "schedTells", unfollowed := true, recurses := true, named := ["deltaworks/sched.kinds"], plainKeys := false, apart := false, laid := [("deltaworks/sched.kinds", laid_deltaworks_sched_kinds)], narrowed := true }
def SchedTellsUptoSaid : Prop := schedTellsUptoRow.holds Tryd.pinned (OpenSpec.upto schedTellsSpec)

/-- 'deltaworkslaw26.SchedScratch', WHERE WHAT IT READS IS OF BULK AT MOST 1048576: true; the input reads as it did. -/
def schedScratchUptoRow : OpenClaim := { program := "ytefkmiomldhmjaadoor", sum := "1783b8a217f50ee3c69e1506766d57d0a07616252bf07876e07dde4e5e6b4b51", func := "deltaworks/deltaworkslaw26.SchedScratch", spec := "schedScratch", unfollowed := true, recurses := true, named := ["deltaworks/sched.kinds"], plainKeys := false, apart := false, laid := [("deltaworks/sched.kinds", laid_deltaworks_sched_kinds)], narrowed := true }
def SchedScratchUptoSaid : Prop := schedScratchUptoRow.holds Tryd.pinned (OpenSpec.upto schedScratchSpec)

/-- 'deltaworkslaw26.SchedAnyOrder', WHERE WHAT IT READS IS OF BULK AT MOST 1048576: true; the input reads as it did. -/
def schedAnyOrderUptoRow : OpenClaim := { program := "ytefkmiomldhmjaadoor", sum := "1783b8a217f50ee3c69e1506766d57d0a07616252bf07876e07dde4e5e6b4b51", func := "deltaworks/deltaworkslaw26.SchedAnyOrder", spec := "schedAnyOrder", unfollowed := true, recurses := true, named := ["deltaworks/sched.kinds"], plainKeys := false, apart := false, laid := [("deltaworks/sched.kinds", laid_deltaworks_sched_kinds)], narrowed := true }
def SchedAnyOrderUptoSaid : Prop := schedAnyOrderUptoRow.holds Tryd.pinned (OpenSpec.upto schedAnyOrderSpec)

/-- 'deltaworkslaw26.SchedBehind', WHERE WHAT IT READS IS OF BULK AT MOST 1048576: true; the input reads as it did. -/
def schedBehindUptoRow : OpenClaim := { program := "ytefkmiomldhmjaadoor", sum := "1783b8a217f50ee3c69e1506766d57d0a07616252bf07876e07dde4e5e6b4b51", func := "deltaworks/deltaworkslaw26.SchedBehind", spec := "schedBehind", unfollowed := true, recurses := true, named := ["deltaworks/sched.kinds"], plainKeys := false, apart := false, laid := [("deltaworks/sched.kinds", laid_deltaworks_sched_kinds)], narrowed := true }
def SchedBehindUptoSaid : Prop := schedBehindUptoRow.holds Tryd.pinned (OpenSpec.upto schedBehindSpec)

/-- 'deltaworkslaw26.SchedLittle', WHERE WHAT IT READS IS OF BULK AT MOST 1048576: true; the input reads as it did. -/
def schedLittleUptoRow : OpenClaim := { program := "ytefkmiomldhmjaadoor", sum := "1783b8a217f50ee3c69e1506766d57d0a07616252bf07876e07dde4e5e6b4b51", func := "deltaworks/deltaworkslaw26.SchedLittle", spec := "schedLittle", unfollowed := true, recurses := true, named := ["deltaworks/sched.kinds"], plainKeys := false, apart := false, laid := [("deltaworks/sched.kinds", laid_deltaworks_sched_kinds)], narrowed := true }
def SchedLittleUptoSaid : Prop := schedLittleUptoRow.holds Tryd.pinned (OpenSpec.upto schedLittleSpec)

/-- 'deltaworkslaw26.SchedLazy', WHERE WHAT IT READS IS OF BULK AT MOST 1048576: true; the input reads as it did. -/
def schedLazyUptoRow : OpenClaim := { program := "ytefkmiomldhmjaadoor", sum := "1783b8a217f50ee3c69e1506766d57d0a07616252bf07876e07dde4e5e6b4b51", func := "deltaworks/deltaworkslaw26.SchedLazy", spec := "schedLazy", unfollowed := true, recurses := true, named := ["deltaworks/sched.kinds"], plainKeys := false, apart := false, laid := [("deltaworks/sched.kinds", laid_deltaworks_sched_kinds)], narrowed := true }
def SchedLazyUptoSaid : Prop := schedLazyUptoRow.holds Tryd.pinned (OpenSpec.upto schedLazySpec)

/-- 'deltaworkslaw26.SchedNames', WHERE WHAT IT READS IS OF BULK AT MOST 1048576: true; the input reads as it did. -/
def schedNamesUptoRow : OpenClaim := { program := "ytefkmiomldhmjaadoor", sum := "1783b8a217f50ee3c69e1506766d57d0a07616252bf07876e07dde4e5e6b4b51", func := "deltaworks/deltaworkslaw26.SchedNames", spec := "schedNames", unfollowed := true, recurses := true, named := ["deltaworks/sched.kinds"], plainKeys := false, apart := false, laid := [("deltaworks/sched.kinds", laid_deltaworks_sched_kinds)], narrowed := true }
def SchedNamesUptoSaid : Prop := schedNamesUptoRow.holds Tryd.pinned (OpenSpec.upto schedNamesSpec)

end Rows
end Go.Proofs.YtefkmiomldhmjaaDoor
