/-
  NARROWER THAN 'FOR EVERY INPUT', by the rows' own cells (each row's printed sentence says how): TraceScratch: laid · TraceStable: laid · TraceBack: laid · TraceTriangle: laid · TraceSums: laid · TraceKnown: laid.
  DERIVED. THE GIVEN ROWS OF THIS SEAT. 6 by the template 'for every input the law returns true; each argument reads behind the call as it read before'; 0 by the template 'total and deterministic' (their statements: YtdiacobmhkmljaaDoorTotals.lean).
  GIVEN WITH THE SEED: the statements are not yours to turn. If you find one false, say at which input.
  Laid BY PROGRAM, IN A SANDBOX (cutbox-rows.mjs): the forced cells as the released guide's own fill.sh prints them over the translation e4b149a151c223ba… (all of the seat's roots in one cut). By AI agents, Wed Nov 11 2026. No macro, syntax, notation, axiom, sorry.
-/
import Derived.Test.YtdiacobmhkmljaaDoorChecked
import GoSem.Claim
import GoSem.ClaimJoined
import GoSem.ClaimMapViews
import Derived.JoinedTies
import Derived.KernelRfl
namespace Go.Proofs.YtdiacobmhkmljaaDoor
/- THE CELL 'sum', in the pinned program and in every row, IS THE sha256 OF THE DUMP (.gsa) THAT YtdiacobmhkmljaaDoorProg.lean LOADS. Nothing in Lean hashes anything: it is a label: what it is worth is what the hold of that sum in a sandbox is worth. -/
noncomputable def Tryd.pinned : Pinned := { name := "ytdiacobmhkmljaadoor", sum := "e4b149a151c223ba569cb4f1f696650482ec931af8fdd5f5c988433623c026be", checked := Tryd.checked }
namespace Rows
def none {H : Type} : Left H := { results := [], args := [] }

/- WHAT THE LISTED PACKAGE-LEVEL VARIABLES READ AS WHEN THE CALL BEGINS. Each datum BY PROGRAM (the guide's laid-datum.mjs) off the statement by which the dump's own 'gosem.cut.vars' lays the variable. In a bare row this is a premise. The card (YtdiacobmhkmljaaDoorCards.lean) ties it to the program's text. -/
def laid_deltaworks_trace_words {H : Type} : DataW H := .iface "func table" (.agg [.iface "func" (.lit (.string [40, 100, 101, 108, 116, 97, 119, 111, 114, 107, 115, 47, 116, 114, 97, 99, 101, 46, 119, 111, 114, 100, 41, 46, 97, 100, 100])), .iface "func" (.lit (.string [40, 100, 101, 108, 116, 97, 119, 111, 114, 107, 115, 47, 116, 114, 97, 99, 101, 46, 119, 111, 114, 100, 41, 46, 115, 117, 98])), .iface "func" (.lit (.string [40, 100, 101, 108, 116, 97, 119, 111, 114, 107, 115, 47, 116, 114, 97, 99, 101, 46, 119, 111, 114, 100, 41, 46, 109, 117, 108])), .iface "func" (.lit (.string [40, 100, 101, 108, 116, 97, 119, 111, 114, 107, 115, 47, 116, 114, 97, 99, 101, 46, 119, 111, 114, 100, 41, 46, 100, 105, 118])), .iface "func" (.lit (.string [40, 100, 101, 108, 116, 97, 119, 111, 114, 107, 115, 47, 116, 114, 97, 99, 101, 46, 119, 111, 114, 100, 41, 46, 109, 111, 100])), .iface "func" (.lit (.string [40, 100, 101, 108, 116, 97, 119, 111, 114, 107, 115, 47, 116, 114, 97, 99, 101, 46, 119, 111, 114, 100, 41, 46, 109, 105, 110])), .iface "func" (.lit (.string [40, 100, 101, 108, 116, 97, 119, 111, 114, 107, 115, 47, 116, 114, 97, 99, 101, 46, 119, 111, 114, 100, 41, 46, 109, 97, 120])), .iface "func" (.lit (.string [40, 100, 101, 108, 116, 97, 119, 111, 114, 107, 115, 47, 116, 114, 97, 99, 101, 46, 119, 111, 114, 100, 41, 46, 97, 110, 100])), .iface "func" (.lit (.string [40, 100, 101, 108, 116, 97, 119, 111, 114, 107, 115, 47, 116, 114, 97, 99, 101, 46, 119, 111, 114, 100, 41, 46, 111, 114])), .iface "func" (.lit (.string [40, 100, 101, 108, 116, 97, 119, 111, 114, 107, 115, 47, 116, 114, 97, 99, 101, 46, 119, 111, 114, 100, 41, 46, 120, 111, 114]))])
def laid_deltaworks_trace_parts {H : Type} : DataW H := .agg [.lit (.int .i64 0), .lit (.int .i64 0), .lit (.int .i64 1), .lit (.int .i64 2), .lit (.int .i64 2), .lit (.int .i64 3), .lit (.int .i64 1)]

/-- 'deltaworkslaw24.TraceScratch': WHATEVER THE INPUT: true; the input reads as it did. -/
def traceScratchSpec : ChangeSpec := { name := "traceScratch", fn := fun _ => fun
  | [d1, d2] => { results := [.lit (.bool true)], args := [d1, d2] }
  | _ => none }
def traceScratchRow : OpenClaim := { program := "ytdiacobmhkmljaadoor", sum := "e4b149a151c223ba569cb4f1f696650482ec931af8fdd5f5c988433623c026be", func := "deltaworks/deltaworkslaw24.TraceScratch", spec := "traceScratch", unfollowed := true, recurses := true, named := ["deltaworks/trace.parts", "deltaworks/trace.words"], plainKeys := false, apart := false, laid := [("deltaworks/trace.words", laid_deltaworks_trace_words), ("deltaworks/trace.parts", laid_deltaworks_trace_parts)] }
def TraceScratchSaid : Prop := traceScratchRow.holds Tryd.pinned (OpenSpec.ofChange traceScratchSpec)

/-- ITS FALSE NEIGHBOUR: 'it returns false'. Refute it at one input. -/
def traceScratchWrong : ChangeSpec := { name := "traceScratch", fn := fun _ => fun
  | [d1, d2] => { results := [.lit (.bool false)], args := [d1, d2] }
  | _ => none }
def TraceScratchWrongFalsely : Prop := traceScratchRow.holds Tryd.pinned (OpenSpec.ofChange traceScratchWrong)

/-- 'deltaworkslaw24.TraceStable': WHATEVER THE INPUT: true; the input reads as it did. -/
def traceStableSpec : ChangeSpec := { name := "traceStable", fn := fun _ => fun
  | [d1, d2] => { results := [.lit (.bool true)], args := [d1, d2] }
  | _ => none }
def traceStableRow : OpenClaim := { program := "ytdiacobmhkmljaadoor", sum := "e4b149a151c223ba569cb4f1f696650482ec931af8fdd5f5c988433623c026be", func := "deltaworks/deltaworkslaw24.TraceStable", spec := "traceStable", unfollowed := true, recurses := true, named := ["deltaworks/trace.parts", "deltaworks/trace.words"], plainKeys := false, apart := false, laid := [("deltaworks/trace.words", laid_deltaworks_trace_words), ("deltaworks/trace.parts", laid_deltaworks_trace_parts)] }
def TraceStableSaid : Prop := traceStableRow.holds Tryd.pinned (OpenSpec.ofChange traceStableSpec)

/-- ITS FALSE NEIGHBOUR: 'it returns false'. Refute it at one input. -/
def traceStableWrong : ChangeSpec := { name := "traceStable", fn := fun _ => fun
  | [d1, d2] => { results := [.lit (.bool false)], args := [d1, d2] }
  | _ => none }
def TraceStableWrongFalsely : Prop := traceStableRow.holds Tryd.pinned (OpenSpec.ofChange traceStableWrong)

/-- 'deltaworkslaw24.TraceBack': WHATEVER THE INPUT: true; the input reads as it did. -/
def traceBackSpec : ChangeSpec := { name := "traceBack", fn := fun _ => fun
  | [d1, d2] => { results := [.lit (.bool true)], args := [d1, d2] }
  | _ => none }
def traceBackRow : OpenClaim := { program := "ytdiacobmhkmljaadoor", sum := "e4b149a151c223ba569cb4f1f696650482ec931af8fdd5f5c988433623c026be", func := "deltaworks/deltaworkslaw24.TraceBack", spec := "traceBack", unfollowed := true, recurses := true, named := ["deltaworks/trace.parts", "deltaworks/trace.words"], plainKeys := false, apart := false, laid := [("deltaworks/trace.words", laid_deltaworks_trace_words), ("deltaworks/trace.parts", laid_deltaworks_trace_parts)] }
def TraceBackSaid : Prop := traceBackRow.holds Tryd.pinned (OpenSpec.ofChange traceBackSpec)

/-- ITS FALSE NEIGHBOUR: 'it returns false'. Refute it at one input. -/
def traceBackWrong : ChangeSpec := { name := "traceBack", fn := fun _ => fun
  | [d1, d2] => { results := [.lit (.bool false)], args := [d1, d2] }
  | _ => none }
def TraceBackWrongFalsely : Prop := traceBackRow.holds Tryd.pinned (OpenSpec.ofChange traceBackWrong)

/-- 'deltaworkslaw24.TraceTriangle': WHATEVER THE INPUT: true; the input reads as it did. -/
def traceTriangleSpec : ChangeSpec := { name := "traceTriangle", fn := fun _ => fun
  | [d1, d2] => { results := [.lit (.bool true)], args := [d1, d2] }
  | _ => none }
def traceTriangleRow : OpenClaim := { program := "ytdiacobmhkmljaadoor", sum := "e4b149a151c223ba569cb4f1f696650482ec931af8fdd5f5c988433623c026be", func := "deltaworks/deltaworkslaw24.TraceTriangle", spec := "traceTriangle", unfollowed := true, recurses := true, named := ["deltaworks/trace.parts", "deltaworks/trace.words"], plainKeys := false, apart := false, laid := [("deltaworks/trace.words", laid_deltaworks_trace_words), ("deltaworks/trace.parts", laid_deltaworks_trace_parts)] }
def TraceTriangleSaid : Prop := traceTriangleRow.holds Tryd.pinned (OpenSpec.ofChange traceTriangleSpec)

/-- ITS FALSE NEIGHBOUR: 'it returns false'. Refute it at one input. -/
def traceTriangleWrong : ChangeSpec := { name := "traceTriangle", fn := fun _ => fun
  | [d1, d2] => { results := [.lit (.bool false)], args := [d1, d2] }
  | _ => none }
def TraceTriangleWrongFalsely : Prop := traceTriangleRow.holds Tryd.pinned (OpenSpec.ofChange traceTriangleWrong)

/-- 'deltaworkslaw24.TraceSums': WHATEVER THE INPUT: true; the input reads as it did. -/
def traceSumsSpec : ChangeSpec := { name := "traceSums", fn := fun _ => fun
  | [d1, d2, d3] => { results := [.lit (.bool true)], args := [d1, d2, d3] }
  | _ => none }
def traceSumsRow : OpenClaim := { program := "ytdiacobmhkmljaadoor", sum := "e4b149a151c223ba569cb4f1f696650482ec931af8fdd5f5c988433623c026be", func := "deltaworks/deltaworkslaw24.TraceSums", spec := "traceSums", unfollowed := true, recurses := true, named := ["deltaworks/trace.parts", "deltaworks/trace.words"], plainKeys := false, apart := false, laid := [("deltaworks/trace.words", laid_deltaworks_trace_words), ("deltaworks/trace.parts", laid_deltaworks_trace_parts)] }
def TraceSumsSaid : Prop := traceSumsRow.holds Tryd.pinned (OpenSpec.ofChange traceSumsSpec)

/-- ITS FALSE NEIGHBOUR: 'it returns false'. Refute it at one input. -/
def traceSumsWrong : ChangeSpec := { name := "traceSums", fn := fun _ => fun
  | [d1, d2, d3] => { results := [.lit (.bool false)], args := [d1, d2, d3] }
  | _ => none }
def TraceSumsWrongFalsely : Prop := traceSumsRow.holds Tryd.pinned (OpenSpec.ofChange traceSumsWrong)

/-- 'deltaworkslaw24.TraceKnown': WHATEVER THE INPUT: true; the input reads as it did. -/
def traceKnownSpec : ChangeSpec := { name := "traceKnown", fn := fun _ => fun
  | [] => { results := [.lit (.bool true)], args := [] }
  | _ => none }
def traceKnownRow : OpenClaim := { program := "ytdiacobmhkmljaadoor", sum := "e4b149a151c223ba569cb4f1f696650482ec931af8fdd5f5c988433623c026be", func := "deltaworks/deltaworkslaw24.TraceKnown", spec := "traceKnown", unfollowed := true, recurses := true, named := ["deltaworks/trace.parts", "deltaworks/trace.words"], plainKeys := false, apart := false, laid := [("deltaworks/trace.words", laid_deltaworks_trace_words), ("deltaworks/trace.parts", laid_deltaworks_trace_parts)] }
def TraceKnownSaid : Prop := traceKnownRow.holds Tryd.pinned (OpenSpec.ofChange traceKnownSpec)

/-- ITS FALSE NEIGHBOUR: 'it returns false'. Refute it at one input. -/
def traceKnownWrong : ChangeSpec := { name := "traceKnown", fn := fun _ => fun
  | [] => { results := [.lit (.bool false)], args := [] }
  | _ => none }
def TraceKnownWrongFalsely : Prop := traceKnownRow.holds Tryd.pinned (OpenSpec.ofChange traceKnownWrong)

/- THE SECOND FORM. 'bulk': how many values and letters a reading holds, each counted each time it is reached (what is shared counts as often as it is met; a slice's spare places count too). A statement '..UptoSaid' is the law's where the arguments, and the package variables that the reading takes, are together of bulk at most 1048576: NARROWER than '..Said'. Prove '..Said' where nothing that the law and all that it calls make is longer than what came in: it says more and counts as full. Else prove '..UptoSaid'. A law counts once. -/
mutual
def uptoBulk {H : Type} : DataW H → Nat
  | .lit (.string bytes) => bytes.length + 1
  | .lit _ => 1
  | .nil => 1
  | .ptr d => uptoBulk d + 1
  | .slice elems spare => uptoBulkAll elems + uptoBulkAll spare + 1
  | .agg parts => uptoBulkAll parts + 1
  | .iface _ d => uptoBulk d + 1
  | .map entries => uptoBulkEntries entries + 1
  | .held _ => 1
def uptoBulkAll {H : Type} : List (DataW H) → Nat
  | [] => 0
  | d :: r => uptoBulk d + uptoBulkAll r
def uptoBulkEntries {H : Type} : List (Lit × DataW H) → Nat
  | [] => 0
  | x :: r => uptoBulkEntry x + uptoBulkEntries r
def uptoBulkEntry {H : Type} : Lit × DataW H → Nat
  | (.string bytes, d) => bytes.length + uptoBulk d + 1
  | (_, d) => uptoBulk d + 1
 end
def uptoSmall : (H : Type) → List (DataW H) → Bool := fun _ ds => decide (uptoBulkAll ds ≤ 1048576)
def OpenSpec.upto (s : _root_.Go.ChangeSpec) : _root_.Go.OpenSpec := { _root_.Go.OpenSpec.ofChange s with cond := some uptoSmall }

/-- 'deltaworkslaw24.TraceScratch', WHERE WHAT IT READS IS OF BULK AT MOST 1048576: true; the input reads as it did. -/
def traceScratchUptoRow : OpenClaim := { program := "ytdiacobmhkmljaadoor", sum := "e4b149a151c223ba569cb4f1f696650482ec931af8fdd5f5c988433623c026be", func := "deltaworks/deltaworkslaw24.TraceScratch", spec := "traceScratch", unfollowed := true, recurses := true, named := ["deltaworks/trace.parts", "deltaworks/trace.words"], plainKeys := false, apart := false, laid := [("deltaworks/trace.words", laid_deltaworks_trace_words), ("deltaworks/trace.parts", laid_deltaworks_trace_parts)], narrowed := true }
def TraceScratchUptoSaid : Prop := traceScratchUptoRow.holds Tryd.pinned (OpenSpec.upto traceScratchSpec)

/-- 'deltaworkslaw24.TraceStable', WHERE WHAT IT READS IS OF BULK AT MOST 1048576: true; the input reads as it did. -/
def traceStableUptoRow : OpenClaim := { program := "ytdiacobmhkmljaadoor", sum := "e4b149a151c223ba569cb4f1f696650482ec931af8fdd5f5c988433623c026be", func := "deltaworks/deltaworkslaw24.TraceStable", spec := "traceStable", unfollowed := true, recurses := true, named := ["deltaworks/trace.parts", "deltaworks/trace.words"], plainKeys := false, apart := false, laid := [("deltaworks/trace.words", laid_deltaworks_trace_words), ("deltaworks/trace.parts", laid_deltaworks_trace_parts)], narrowed := true }
def TraceStableUptoSaid : Prop := traceStableUptoRow.holds Tryd.pinned (OpenSpec.upto traceStableSpec)

/-- 'deltaworkslaw24.TraceBack', WHERE WHAT IT READS IS OF BULK AT MOST 1048576: true; the input reads as it did. -/
def traceBackUptoRow : OpenClaim := { program := "ytdiacobmhkmljaadoor", sum := "e4b149a151c223ba569cb4f1f696650482ec931af8fdd5f5c988433623c026be", func := "deltaworks/deltaworkslaw24.TraceBack", spec := "traceBack", unfollowed := true, recurses := true, named := ["deltaworks/trace.parts", "deltaworks/trace.words"], plainKeys := false, apart := false, laid := [("deltaworks/trace.words", laid_deltaworks_trace_words), ("deltaworks/trace.parts", laid_deltaworks_trace_parts)], narrowed := true }
def TraceBackUptoSaid : Prop := traceBackUptoRow.holds Tryd.pinned (OpenSpec.upto traceBackSpec)

/-- 'deltaworkslaw24.TraceTriangle', WHERE WHAT IT READS IS OF BULK AT MOST 1048576: true; the input reads as it did. -/
def traceTriangleUptoRow : OpenClaim := { program := "ytdiacobmhkmljaadoor", sum := "e4b149a151c223ba569cb4f1f696650482ec931af8fdd5f5c988433623c026be", func := "deltaworks/deltaworkslaw24.TraceTriangle", spec := "traceTriangle", unfollowed := true, recurses := true, named := ["deltaworks/trace.parts", "deltaworks/trace.words"], plainKeys := false, apart := false, laid := [("deltaworks/trace.words", laid_deltaworks_trace_words), ("deltaworks/trace.parts", laid_deltaworks_trace_parts)], narrowed := true }
def TraceTriangleUptoSaid : Prop := traceTriangleUptoRow.holds Tryd.pinned (OpenSpec.upto traceTriangleSpec)

/-- 'deltaworkslaw24.TraceSums', WHERE WHAT IT READS IS OF BULK AT MOST 1048576: true; the input reads as it did. -/
def traceSumsUptoRow : OpenClaim := { program := "ytdiacobmhkmljaadoor", sum := "e4b149a151c223ba569cb4f1f696650482ec931af8fdd5f5c988433623c026be", func := "deltaworks/deltaworkslaw24.TraceSums", spec := "traceSums", unfollowed := true, recurses := true, named := ["deltaworks/trace.parts", "deltaworks/trace.words"], plainKeys := false, apart := false, laid := [("deltaworks/trace.words", laid_deltaworks_trace_words), ("deltaworks/trace.parts", laid_deltaworks_trace_parts)], narrowed := true }
def TraceSumsUptoSaid : Prop := traceSumsUptoRow.holds Tryd.pinned (OpenSpec.upto traceSumsSpec)

/-- 'deltaworkslaw24.TraceKnown', WHERE WHAT IT READS IS OF BULK AT MOST 1048576: true; the input reads as it did. -/
def traceKnownUptoRow : OpenClaim := { program := "ytdiacobmhkmljaadoor", sum := "e4b149a151c223ba569cb4f1f696650482ec931af8fdd5f5c988433623c026be", func := "deltaworks/deltaworkslaw24.TraceKnown", spec := "traceKnown", unfollowed := true, recurses := true, named := ["deltaworks/trace.parts", "deltaworks/trace.words"], plainKeys := false, apart := false, laid := [("deltaworks/trace.words", laid_deltaworks_trace_words), ("deltaworks/trace.parts", laid_deltaworks_trace_parts)], narrowed := true }
def TraceKnownUptoSaid : Prop := traceKnownUptoRow.holds Tryd.pinned (OpenSpec.upto traceKnownSpec)

end Rows
end Go.Proofs.YtdiacobmhkmljaaDoor
