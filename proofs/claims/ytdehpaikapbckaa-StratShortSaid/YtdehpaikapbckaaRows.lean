/-
  NARROWER THAN 'FOR EVERY INPUT', by the rows' own cells (each row's printed sentence says how): StratTells: loops.
  DERIVED. THE GIVEN ROWS OF THIS SEAT. 5 by the template 'for every input the law returns true; each argument reads behind the call as it read before'; 0 by the template 'total and deterministic' (their statements: YtdehpaikapbckaaTotals.lean).
  GIVEN WITH THE SEED: the statements are not yours to turn. If you find one false, say at which input.
  Laid BY PROGRAM, IN A SANDBOX (cutbox-rows.mjs): the forced cells as the released guide's own fill.sh prints them over the translation 3f0c95138865d813… (all of the seat's roots in one cut). By AI agents, Wed Nov 11 2026. No macro, syntax, notation, axiom, sorry.
-/
import Derived.Test.YtdehpaikapbckaaChecked
import GoSem.Claim
import GoSem.ClaimJoined
import GoSem.ClaimMapViews
import Derived.JoinedTies
import Derived.KernelRfl
namespace Go.Proofs.Ytdehpaikapbckaa
/- THE CELL 'sum', in the pinned program and in every row, IS THE sha256 OF THE DUMP (.gsa) THAT YtdehpaikapbckaaProg.lean LOADS. Nothing in Lean hashes anything: it is a label: what it is worth is what the hold of that sum in a sandbox is worth. -/
noncomputable def Try.pinned : Pinned := { name := "ytdehpaikapbckaa", sum := "3f0c95138865d81372578c67243c2012fbb289823ac0284c6e8fc6f89b26b619", checked := Try.checked }
namespace Rows
def none {H : Type} : Left H := { results := [], args := [] }

/-- 'deltaworkslaw08.StratTells': WHATEVER THE INPUT: true; the input reads as it did. -/
def stratTellsSpec : ChangeSpec := { name := "stratTells", fn := fun _ => fun
  | [d1, d2, d3] => { results := [.lit (.bool true)], args := [d1, d2, d3] }
  | _ => none }
def stratTellsRow : OpenClaim := { program := "ytdehpaikapbckaa", sum := "3f0c95138865d81372578c67243c2012fbb289823ac0284c6e8fc6f89b26b619", func := "deltaworks/deltaworkslaw08.StratTells", spec := "stratTells", unfollowed := true, recurses := true, loops := true, plainKeys := false, apart := false }
def StratTellsSaid : Prop := stratTellsRow.holds Try.pinned (OpenSpec.ofChange stratTellsSpec)

/-- ITS FALSE NEIGHBOUR: 'it returns false'. Refute it at one input. -/
def stratTellsWrong : ChangeSpec := { name := "stratTells", fn := fun _ => fun
  | [d1, d2, d3] => { results := [.lit (.bool false)], args := [d1, d2, d3] }
  | _ => none }
def StratTellsWrongFalsely : Prop := stratTellsRow.holds Try.pinned (OpenSpec.ofChange stratTellsWrong)

/-- 'deltaworkslaw08.StratEither': WHATEVER THE INPUT: true; the input reads as it did. -/
def stratEitherSpec : ChangeSpec := { name := "stratEither", fn := fun _ => fun
  | [d1, d2] => { results := [.lit (.bool true)], args := [d1, d2] }
  | _ => none }
def stratEitherRow : OpenClaim := { program := "ytdehpaikapbckaa", sum := "3f0c95138865d81372578c67243c2012fbb289823ac0284c6e8fc6f89b26b619", func := "deltaworks/deltaworkslaw08.StratEither", spec := "stratEither", unfollowed := true, recurses := true, plainKeys := false, apart := false }
def StratEitherSaid : Prop := stratEitherRow.holds Try.pinned (OpenSpec.ofChange stratEitherSpec)

/-- ITS FALSE NEIGHBOUR: 'it returns false'. Refute it at one input. -/
def stratEitherWrong : ChangeSpec := { name := "stratEither", fn := fun _ => fun
  | [d1, d2] => { results := [.lit (.bool false)], args := [d1, d2] }
  | _ => none }
def StratEitherWrongFalsely : Prop := stratEitherRow.holds Try.pinned (OpenSpec.ofChange stratEitherWrong)

/-- 'deltaworkslaw08.StratShort': WHATEVER THE INPUT: true; the input reads as it did. -/
def stratShortSpec : ChangeSpec := { name := "stratShort", fn := fun _ => fun
  | [d1, d2] => { results := [.lit (.bool true)], args := [d1, d2] }
  | _ => none }
def stratShortRow : OpenClaim := { program := "ytdehpaikapbckaa", sum := "3f0c95138865d81372578c67243c2012fbb289823ac0284c6e8fc6f89b26b619", func := "deltaworks/deltaworkslaw08.StratShort", spec := "stratShort", unfollowed := true, recurses := true, plainKeys := false, apart := false }
def StratShortSaid : Prop := stratShortRow.holds Try.pinned (OpenSpec.ofChange stratShortSpec)

/-- ITS FALSE NEIGHBOUR: 'it returns false'. Refute it at one input. -/
def stratShortWrong : ChangeSpec := { name := "stratShort", fn := fun _ => fun
  | [d1, d2] => { results := [.lit (.bool false)], args := [d1, d2] }
  | _ => none }
def StratShortWrongFalsely : Prop := stratShortRow.holds Try.pinned (OpenSpec.ofChange stratShortWrong)

/-- 'deltaworkslaw08.StratLevels': WHATEVER THE INPUT: true; the input reads as it did. -/
def stratLevelsSpec : ChangeSpec := { name := "stratLevels", fn := fun _ => fun
  | [d1, d2] => { results := [.lit (.bool true)], args := [d1, d2] }
  | _ => none }
def stratLevelsRow : OpenClaim := { program := "ytdehpaikapbckaa", sum := "3f0c95138865d81372578c67243c2012fbb289823ac0284c6e8fc6f89b26b619", func := "deltaworks/deltaworkslaw08.StratLevels", spec := "stratLevels", unfollowed := true, recurses := true, plainKeys := false, apart := false }
def StratLevelsSaid : Prop := stratLevelsRow.holds Try.pinned (OpenSpec.ofChange stratLevelsSpec)

/-- ITS FALSE NEIGHBOUR: 'it returns false'. Refute it at one input. -/
def stratLevelsWrong : ChangeSpec := { name := "stratLevels", fn := fun _ => fun
  | [d1, d2] => { results := [.lit (.bool false)], args := [d1, d2] }
  | _ => none }
def StratLevelsWrongFalsely : Prop := stratLevelsRow.holds Try.pinned (OpenSpec.ofChange stratLevelsWrong)

/-- 'deltaworkslaw08.StratReaches': WHATEVER THE INPUT: true; the input reads as it did. -/
def stratReachesSpec : ChangeSpec := { name := "stratReaches", fn := fun _ => fun
  | [d1, d2, d3] => { results := [.lit (.bool true)], args := [d1, d2, d3] }
  | _ => none }
def stratReachesRow : OpenClaim := { program := "ytdehpaikapbckaa", sum := "3f0c95138865d81372578c67243c2012fbb289823ac0284c6e8fc6f89b26b619", func := "deltaworks/deltaworkslaw08.StratReaches", spec := "stratReaches", unfollowed := true, recurses := true, plainKeys := false, apart := false }
def StratReachesSaid : Prop := stratReachesRow.holds Try.pinned (OpenSpec.ofChange stratReachesSpec)

/-- ITS FALSE NEIGHBOUR: 'it returns false'. Refute it at one input. -/
def stratReachesWrong : ChangeSpec := { name := "stratReaches", fn := fun _ => fun
  | [d1, d2, d3] => { results := [.lit (.bool false)], args := [d1, d2, d3] }
  | _ => none }
def StratReachesWrongFalsely : Prop := stratReachesRow.holds Try.pinned (OpenSpec.ofChange stratReachesWrong)

/- THE SECOND FORM. 'bulk': how many values and letters a reading holds, each counted each time it is reached (what is shared counts as often as it is met; a slice's spare places count too). A statement '..UptoSaid' is the law's where the arguments, and the package variables that the reading takes, are together of bulk at most 1048576: NARROWER than '..Said'. Prove '..Said' where nothing that the law and all that it calls make is longer than what came in: it says more and counts as full. Else prove '..UptoSaid'. A law counts once. -/
mutual
def uptoBulk {H : Type} : DataW H → Nat
  | .lit (.string bytes) => bytes.length + 1
  | .lit _ => 1
  | .nil => 1
  | .ptr d => uptoBulk d + 1
  | .slice elems spare => uptoBulkAll elems + uptoBulkAll spare + 1
  | .agg parts => uptoBulkAll parts + 1
  | .iface _ d => uptoBulk d + 1
  | .map entries => uptoBulkEntries entries + 1
  | .held _ => 1
def uptoBulkAll {H : Type} : List (DataW H) → Nat
  | [] => 0
  | d :: r => uptoBulk d + uptoBulkAll r
def uptoBulkEntries {H : Type} : List (Lit × DataW H) → Nat
  | [] => 0
  | x :: r => uptoBulkEntry x + uptoBulkEntries r
def uptoBulkEntry {H : Type} : Lit × DataW H → Nat
  | (.string bytes, d) => bytes.length + uptoBulk d + 1
  | (_, d) => uptoBulk d + 1
 end
def uptoSmall : (H : Type) → List (DataW H) → Bool := fun _ ds => decide (uptoBulkAll ds ≤ 1048576)
def OpenSpec.upto (s : _root_.Go.ChangeSpec) : _root_.Go.OpenSpec := { _root_.Go.OpenSpec.ofChange s with cond := some uptoSmall }

/-- 'deltaworkslaw08.StratTells', WHERE WHAT IT READS IS OF BULK AT MOST 1048576: true; the input reads as it did. -/
def stratTellsUptoRow : OpenClaim := { program := "ytdehpaikapbckaa", sum := "3f0c95138865d81372578c67243c2012fbb289823ac0284c6e8fc6f89b26b619", func := "deltaworks/deltaworkslaw08.StratTells", spec := "stratTells", unfollowed := true, recurses := true, loops := true, plainKeys := false, apart := false, narrowed := true }
def StratTellsUptoSaid : Prop := stratTellsUptoRow.holds Try.pinned (OpenSpec.upto stratTellsSpec)

/-- 'deltaworkslaw08.StratEither', WHERE WHAT IT READS IS OF BULK AT MOST 1048576: true; the input reads as it did. -/
def stratEitherUptoRow : OpenClaim := { program := "ytdehpaikapbckaa", sum := "3f0c95138865d81372578c67243c2012fbb289823ac0284c6e8fc6f89b26b619", func := "deltaworks/deltaworkslaw08.StratEither", spec := "stratEither", unfollowed := true, recurses := true, plainKeys := false, apart := false, narrowed := true }
def StratEitherUptoSaid : Prop := stratEitherUptoRow.holds Try.pinned (OpenSpec.upto stratEitherSpec)

/-- 'deltaworkslaw08.StratShort', WHERE WHAT IT READS IS OF BULK AT MOST 1048576: true; the input reads as it did. -/
def stratShortUptoRow : OpenClaim := { program := "ytdehpaikapbckaa", sum := "3f0c95138865d81372578c67243c2012fbb289823ac0284c6e8fc6f89b26b619", func := "deltaworks/deltaworkslaw08.StratShort", spec := "stratShort", unfollowed := true, recurses := true, plainKeys := false, apart := false, narrowed := true }
def StratShortUptoSaid : Prop := stratShortUptoRow.holds Try.pinned (OpenSpec.upto stratShortSpec)

/-- 'deltaworkslaw08.StratLevels', WHERE WHAT IT READS IS OF BULK AT MOST 1048576: true; the input reads as it did. -/
def stratLevelsUptoRow : OpenClaim := { program := "ytdehpaikapbckaa", sum := "3f0c95138865d81372578c67243c2012fbb289823ac0284c6e8fc6f89b26b619", func := "deltaworks/deltaworkslaw08.StratLevels", spec := "stratLevels", unfollowed := true, recurses := true, plainKeys := false, apart := false, narrowed := true }
def StratLevelsUptoSaid : Prop := stratLevelsUptoRow.holds Try.pinned (OpenSpec.upto stratLevelsSpec)

/-- 'deltaworkslaw08.StratReaches', WHERE WHAT IT READS IS OF BULK AT MOST 1048576: true; the input reads as it did. -/
def stratReachesUptoRow : OpenClaim := { program := "ytdehpaikapbckaa", sum := "3f0c95138865d81372578c67243c2012fbb289823ac0284c6e8fc6f89b26b619", func := "deltaworks/deltaworkslaw08.StratReaches", spec := "stratReaches", unfollowed := true, recurses := true, plainKeys := false, apart := false, narrowed := true }
def StratReachesUptoSaid : Prop := stratReachesUptoRow.holds Try.pinned (OpenSpec.upto stratReachesSpec)

end Rows
end Go.Proofs.Ytdehpaikapbckaa
