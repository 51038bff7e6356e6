/-
  NARROWER THAN 'FOR EVERY INPUT', by the rows' own cells (each row's printed sentence says how): TraceRuns: loops, laid · TracePlays: loops, laid · TraceApart: loops, laid.
  DERIVED. THE GIVEN ROWS OF THIS SEAT. 3 by the template 'for every input the law returns true; each argument reads behind the call as it read before'; 0 by the template 'total and deterministic' (their statements: YtdiacobmhkmljaaGreatDoorTotals.lean).
  GIVEN WITH THE SEED: the statements are not yours to turn. If you find one false, say at which input.
  Laid BY PROGRAM, IN A SANDBOX (cutbox-rows.mjs): the forced cells as the released guide's own fill.sh prints them over the translation 34f2d6ad3a9fa468… (all of the seat's roots in one cut). By AI agents, Wed Nov 11 2026. No macro, syntax, notation, axiom, sorry.
-/
import Derived.Test.YtdiacobmhkmljaaGreatDoorChecked
import GoSem.Claim
import GoSem.ClaimJoined
import GoSem.ClaimMapViews
import Derived.JoinedTies
import Derived.KernelRfl
namespace Go.Proofs.YtdiacobmhkmljaaGreatDoor
/- THE CELL 'sum', in the pinned program and in every row, IS THE sha256 OF THE DUMP (.gsa) THAT YtdiacobmhkmljaaGreatDoorProg.lean LOADS. Nothing in Lean hashes anything: it is a label: what it is worth is what the hold of that sum in a sandbox is worth. -/
noncomputable def Tryz.pinned : Pinned := { name := "ytdiacobmhkmljaagreatdoor", sum := "34f2d6ad3a9fa468db80252a23a9c78ded54012f60b51dfaa8151e57b378aa21", checked := Tryz.checked }
namespace Rows
def none {H : Type} : Left H := { results := [], args := [] }

/- WHAT THE LISTED PACKAGE-LEVEL VARIABLES READ AS WHEN THE CALL BEGINS. Each datum BY PROGRAM (the guide's laid-datum.mjs) off the statement by which the dump's own 'gosem.cut.vars' lays the variable. In a bare row this is a premise. The card (YtdiacobmhkmljaaGreatDoorCards.lean) ties it to the program's text. -/
def laid_deltaworks_trace_words {H : Type} : DataW H := .iface "func table" (.agg [.iface "func" (.lit (.string [40, 100, 101, 108, 116, 97, 119, 111, 114, 107, 115, 47, 116, 114, 97, 99, 101, 46, 119, 111, 114, 100, 41, 46, 97, 100, 100])), .iface "func" (.lit (.string [40, 100, 101, 108, 116, 97, 119, 111, 114, 107, 115, 47, 116, 114, 97, 99, 101, 46, 119, 111, 114, 100, 41, 46, 115, 117, 98])), .iface "func" (.lit (.string [40, 100, 101, 108, 116, 97, 119, 111, 114, 107, 115, 47, 116, 114, 97, 99, 101, 46, 119, 111, 114, 100, 41, 46, 109, 117, 108])), .iface "func" (.lit (.string [40, 100, 101, 108, 116, 97, 119, 111, 114, 107, 115, 47, 116, 114, 97, 99, 101, 46, 119, 111, 114, 100, 41, 46, 100, 105, 118])), .iface "func" (.lit (.string [40, 100, 101, 108, 116, 97, 119, 111, 114, 107, 115, 47, 116, 114, 97, 99, 101, 46, 119, 111, 114, 100, 41, 46, 109, 111, 100])), .iface "func" (.lit (.string [40, 100, 101, 108, 116, 97, 119, 111, 114, 107, 115, 47, 116, 114, 97, 99, 101, 46, 119, 111, 114, 100, 41, 46, 109, 105, 110])), .iface "func" (.lit (.string [40, 100, 101, 108, 116, 97, 119, 111, 114, 107, 115, 47, 116, 114, 97, 99, 101, 46, 119, 111, 114, 100, 41, 46, 109, 97, 120])), .iface "func" (.lit (.string [40, 100, 101, 108, 116, 97, 119, 111, 114, 107, 115, 47, 116, 114, 97, 99, 101, 46, 119, 111, 114, 100, 41, 46, 97, 110, 100])), .iface "func" (.lit (.string [40, 100, 101, 108, 116, 97, 119, 111, 114, 107, 115, 47, 116, 114, 97, 99, 101, 46, 119, 111, 114, 100, 41, 46, 111, 114])), .iface "func" (.lit (.string [40, 100, 101, 108, 116, 97, 119, 111, 114, 107, 115, 47, 116, 114, 97, 99, 101, 46, 119, 111, 114, 100, 41, 46, 120, 111, 114]))])
def laid_deltaworks_trace_parts {H : Type} : DataW H := .agg [.lit (.int .i64 0), .lit (.int .i64 0), .lit (.int .i64 1), .lit (.int .i64 2), .lit (.int .i64 2), .lit (.int .i64 3), .lit (.int .i64 1)]

/-- 'deltaworkslaw24.TraceRuns': WHATEVER THE INPUT: true; the input reads as it did. -/
def traceRunsSpec : ChangeSpec := { name := "traceRuns", fn := fun _ => fun
  | [d1, d2, d3] => { results := [.lit (.bool true)], args := [d1, d2, d3] }
  | _ => none }
def traceRunsRow : OpenClaim := { program := "ytdiacobmhkmljaagreatdoor", sum := "34f2d6ad3a9fa468db80252a23a9c78ded54012f60b51dfaa8151e57b378aa21", func := "deltaworks/deltaworkslaw24.TraceRuns", spec := "traceRuns", unfollowed := true, recurses := true, named := ["deltaworks/trace.parts", "deltaworks/trace.words"], loops := true, plainKeys := false, apart := false, laid := [("deltaworks/trace.words", laid_deltaworks_trace_words), ("deltaworks/trace.parts", laid_deltaworks_trace_parts)] }
def TraceRunsSaid : Prop := traceRunsRow.holds Tryz.pinned (OpenSpec.ofChange traceRunsSpec)

/-- ITS FALSE NEIGHBOUR: 'it returns false'. Refute it at one input. -/
def traceRunsWrong : ChangeSpec := { name := "traceRuns", fn := fun _ => fun
  | [d1, d2, d3] => { results := [.lit (.bool false)], args := [d1, d2, d3] }
  | _ => none }
def TraceRunsWrongFalsely : Prop := traceRunsRow.holds Tryz.pinned (OpenSpec.ofChange traceRunsWrong)

/-- 'deltaworkslaw24.TracePlays': WHATEVER THE INPUT: true; the input reads as it did. -/
def tracePlaysSpec : ChangeSpec := { name := "tracePlays", fn := fun _ => fun
  | [d1, d2, d3, d4] => { results := [.lit (.bool true)], args := [d1, d2, d3, d4] }
  | _ => none }
def tracePlaysRow : OpenClaim := { program := "ytdiacobmhkmljaagreatdoor", sum := "34f2d6ad3a9fa468db80252a23a9c78ded54012f60b51dfaa8151e57b378aa21", func := "deltaworks/deltaworkslaw24.TracePlays", spec := "tracePlays", unfollowed := true, recurses := true, named := ["deltaworks/trace.parts", "deltaworks/trace.words"], loops := true, plainKeys := false, apart := false, laid := [("deltaworks/trace.words", laid_deltaworks_trace_words), ("deltaworks/trace.parts", laid_deltaworks_trace_parts)] }
def TracePlaysSaid : Prop := tracePlaysRow.holds Tryz.pinned (OpenSpec.ofChange tracePlaysSpec)

/-- ITS FALSE NEIGHBOUR: 'it returns false'. Refute it at one input. -/
def tracePlaysWrong : ChangeSpec := { name := "tracePlays", fn := fun _ => fun
  | [d1, d2, d3, d4] => { results := [.lit (.bool false)], args := [d1, d2, d3, d4] }
  | _ => none }
def TracePlaysWrongFalsely : Prop := tracePlaysRow.holds Tryz.pinned (OpenSpec.ofChange tracePlaysWrong)

/-- 'deltaworkslaw24.TraceApart': WHATEVER THE INPUT: true; the input reads as it did. -/
def traceApartSpec : ChangeSpec := { name := "traceApart", fn := fun _ => fun
  | [d1, d2, d3, d4] => { results := [.lit (.bool true)], args := [d1, d2, d3, d4] }
  | _ => none }
def traceApartRow : OpenClaim := { program := "ytdiacobmhkmljaagreatdoor", sum := "34f2d6ad3a9fa468db80252a23a9c78ded54012f60b51dfaa8151e57b378aa21", func := "deltaworks/deltaworkslaw24.TraceApart", spec := "traceApart", unfollowed := true, recurses := true, named := ["deltaworks/trace.parts", "deltaworks/trace.words"], loops := true, plainKeys := false, apart := false, laid := [("deltaworks/trace.words", laid_deltaworks_trace_words), ("deltaworks/trace.parts", laid_deltaworks_trace_parts)] }
def TraceApartSaid : Prop := traceApartRow.holds Tryz.pinned (OpenSpec.ofChange traceApartSpec)

/-- ITS FALSE NEIGHBOUR: 'it returns false'. Refute it at one input. -/
def traceApartWrong : ChangeSpec := { name := "traceApart", fn := fun _ => fun
  | [d1, d2, d3, d4] => { results := [.lit (.bool false)], args := [d1, d2, d3, d4] }
  | _ => none }
def TraceApartWrongFalsely : Prop := traceApartRow.holds Tryz.pinned (OpenSpec.ofChange traceApartWrong)

/- THE SECOND FORM. 'bulk': how many values and letters a reading holds, each counted each time it is reached (what is shared counts as often as it is met; a slice's spare places count too). A statement '..UptoSaid' is the law's where the arguments, and the package variables that the reading takes, are together of bulk at most 1048576: NARROWER than '..Said'. Prove '..Said' where nothing that the law and all that it calls make is longer than what came in: it says more and counts as full. Else prove '..UptoSaid'. A law counts once. -/
mutual
def uptoBulk {H : Type} : DataW H → Nat
  | .lit (.string bytes) => bytes.length + 1
  | .lit _ => 1
  | .nil => 1
  | .ptr d => uptoBulk d + 1
  | .slice elems spare => uptoBulkAll elems + uptoBulkAll spare + 1
  | .agg parts => uptoBulkAll parts + 1
  | .iface _ d => uptoBulk d + 1
  | .map entries => uptoBulkEntries entries + 1
  | .held _ => 1
def uptoBulkAll {H : Type} : List (DataW H) → Nat
  | [] => 0
  | d :: r => uptoBulk d + uptoBulkAll r
def uptoBulkEntries {H : Type} : List (Lit × DataW H) → Nat
  | [] => 0
  | x :: r => uptoBulkEntry x + uptoBulkEntries r
def uptoBulkEntry {H : Type} : Lit × DataW H → Nat
  | (.string bytes, d) => bytes.length + uptoBulk d + 1
  | (_, d) => uptoBulk d + 1
 end
def uptoSmall : (H : Type) → List (DataW H) → Bool := fun _ ds => decide (uptoBulkAll ds ≤ 1048576)
def OpenSpec.upto (s : _root_.Go.ChangeSpec) : _root_.Go.OpenSpec := { _root_.Go.OpenSpec.ofChange s with cond := some uptoSmall }

/-- 'deltaworkslaw24.TraceRuns', WHERE WHAT IT READS IS OF BULK AT MOST 1048576: true; the input reads as it did. -/
def traceRunsUptoRow : OpenClaim := { program := "ytdiacobmhkmljaagreatdoor", sum := "34f2d6ad3a9fa468db80252a23a9c78ded54012f60b51dfaa8151e57b378aa21", func := "deltaworks/deltaworkslaw24.TraceRuns", spec := "traceRuns", unfollowed := true, recurses := true, named := ["deltaworks/trace.parts", "deltaworks/trace.words"], loops := true, plainKeys := false, apart := false, laid := [("deltaworks/trace.words", laid_deltaworks_trace_words), ("deltaworks/trace.parts", laid_deltaworks_trace_parts)], narrowed := true }
def TraceRunsUptoSaid : Prop := traceRunsUptoRow.holds Tryz.pinned (OpenSpec.upto traceRunsSpec)

/-- 'deltaworkslaw24.TracePlays', WHERE WHAT IT READS IS OF BULK AT MOST 1048576: true; the input reads as it did. -/
def tracePlaysUptoRow : OpenClaim := { program := "ytdiacobmhkmljaagreatdoor", sum := "34f2d6ad3a9fa468db80252a23a9c78ded54012f60b51dfaa8151e57b378aa21", func := "deltaworks/deltaworkslaw24.TracePlays", spec := "tracePlays", unfollowed := true, recurses := true, named := ["deltaworks/trace.parts", "deltaworks/trace.words"], loops := true, plainKeys := false, apart := false, laid := [("deltaworks/trace.words", laid_deltaworks_trace_words), ("deltaworks/trace.parts", laid_deltaworks_trace_parts)], narrowed := true }
def TracePlaysUptoSaid : Prop := tracePlaysUptoRow.holds Tryz.pinned (OpenSpec.upto tracePlaysSpec)

/-- 'deltaworkslaw24.TraceApart', WHERE WHAT IT READS IS OF BULK AT MOST 1048576: true; the input reads as it did. -/
def traceApartUptoRow : OpenClaim := { program := "ytdiacobmhkmljaagreatdoor", sum := "34f2d6ad3a9fa468db80252a23a9c78ded54012f60b51dfaa8151e57b378aa21", func := "deltaworks/deltaworkslaw24.TraceApart", spec := "traceApart", unfollowed := true, recurses := true, named := ["deltaworks/trace.parts", "deltaworks/trace.words"], loops := true, plainKeys := false, apart := false, laid := [("deltaworks/trace.words", laid_deltaworks_trace_words), ("deltaworks/trace.parts", laid_deltaworks_trace_parts)], narrowed := true }
def TraceApartUptoSaid : Prop := traceApartUptoRow.holds Tryz.pinned (OpenSpec.upto traceApartSpec)

end Rows
end Go.Proofs.YtdiacobmhkmljaaGreatDoor
