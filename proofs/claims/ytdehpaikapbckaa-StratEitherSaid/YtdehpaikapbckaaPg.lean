/- Several texts in one. -/
import Derived.Test.YtdehpaikapbckaaPf
import Derived.Test.YtdehpaikapbckaaRows
/- What the arguments of the laws hold. -/
namespace Go.Proofs.Ytdehpaikapbckaa
open Go.Sl Go.ChangeShapes Go.WideShapes Go.Deep Go.RowKit
section
variable {H : Type} {enc : TypeId × Value → H} {W : World}
theorem list3 {l : List Value} (h : l.length = 3) : ∃ a b c, l = [a, b, c] := by
  match l, h with
  | [a, b, c], _ => exact ⟨a, b, c, rfl⟩
theorem list4 {l : List Value} (h : l.length = 4) : ∃ a b c d, l = [a, b, c, d] := by
  match l, h with
  | [a, b, c, d], _ => exact ⟨a, b, c, d, rfl⟩
theorem u3 : Try.prog.underlying 3 = some (.int .i64) := by kernel_rfl
theorem u4 : Try.prog.underlying 4 = some .bool := by kernel_rfl
theorem u22 : Try.prog.underlying 22 = some (.slice 53) := by kernel_rfl
theorem u23 : Try.prog.underlying 23 = some (.slice 3) := by kernel_rfl
theorem u36 : Try.prog.underlying 36 = some (.slice 96) := by kernel_rfl
theorem u45 : Try.prog.underlying 45 = some (.slice 5) := by kernel_rfl
theorem u96 : Try.prog.underlying 96 = some (.int .u16) := by kernel_rfl
theorem u5 : Try.prog.underlying 5 = some (.int .u8) := by kernel_rfl
theorem u47 : Try.prog.underlying 47 = some (.slice 142) := by kernel_rfl
theorem u48 : Try.prog.underlying 48 = some (.slice 55) := by kernel_rfl
theorem u49 : Try.prog.underlying 49 = some (.slice 145) := by kernel_rfl
theorem k3 : Try.prog.cellsOf 3 = 1 := by kernel_rfl
theorem k4 : Try.prog.cellsOf 4 = 1 := by kernel_rfl
theorem k5 : Try.prog.cellsOf 5 = 1 := by kernel_rfl
theorem k96 : Try.prog.cellsOf 96 = 1 := by kernel_rfl
theorem k47 : Try.prog.cellsOf 47 = 1 := by kernel_rfl
theorem k48 : Try.prog.cellsOf 48 = 1 := by kernel_rfl
theorem k49 : Try.prog.cellsOf 49 = 1 := by kernel_rfl
theorem k51 : Try.prog.cellsOf 51 = 3 := by kernel_rfl
theorem k53 : Try.prog.cellsOf 53 = 4 := by kernel_rfl
theorem k55 : Try.prog.cellsOf 55 = 3 := by kernel_rfl
theorem atom_read {fuel : Nat} {cs : List Value} {y : DataW H × List MemPlace} (h : DataW.trod enc Try.prog W 0 (fun _ => true) true fuel 55 cs = some y) : ∃ x : AtomD, cs = x.cells := by
  obtain ⟨n, hl, hf⟩ := struct_read (l := [(3, 0), (4, 1), (47, 2)]) (by kernel_rfl) h
  rw [k55] at hl
  obtain ⟨c0, c1, c2, rfl⟩ := list3 hl
  obtain ⟨y0, h0⟩ := hf 0 3 0 rfl
  obtain ⟨y1, h1⟩ := hf 1 4 1 rfl
  obtain ⟨y2, h2⟩ := hf 2 47 2 rfl
  rw [k3] at h0
  rw [k4] at h1
  rw [k47] at h2
  obtain ⟨z, e0, _, _⟩ := DataW.trod_int u3 h0
  obtain ⟨b, e1, _⟩ := DataW.trod_bool u4 h1
  obtain ⟨a, l, c, e2⟩ := slice_form u47 h2
  simp only [List.drop_zero, List.take_succ_cons, List.take_zero, List.drop_succ_cons, List.cons.injEq, and_true] at e0 e1 e2
  exact ⟨⟨z, b, a, l, c⟩, by rw [e0, e1, e2]; rfl⟩
theorem rule_read {fuel : Nat} {cs : List Value} {y : DataW H × List MemPlace} (h : DataW.trod enc Try.prog W 0 (fun _ => true) true fuel 53 cs = some y) :
    ∃ x : RuleD, cs = x.cells ∧ Row (Old W) W [] x.ba (x.body.flatMap AtomD.cells) ∧ x.body.length < 2 ^ 63 := by
  obtain ⟨n, hl, hf⟩ := struct_read (l := [(3, 0), (51, 1)]) (by kernel_rfl) h
  rw [k53] at hl
  obtain ⟨c0, c1, c2, c3, rfl⟩ := list4 hl
  obtain ⟨y0, h0⟩ := hf 0 3 0 rfl
  obtain ⟨y1, h1⟩ := hf 1 51 1 rfl
  rw [k3] at h0
  rw [k51] at h1
  obtain ⟨z, e0, _, _⟩ := DataW.trod_int u3 h0
  obtain ⟨n', _, hg⟩ := struct_read (l := [(47, 0), (48, 1), (49, 2)]) (by kernel_rfl) h1
  obtain ⟨z0, g0⟩ := hg 0 47 0 rfl
  obtain ⟨z1, g1⟩ := hg 1 48 1 rfl
  obtain ⟨z2, g2⟩ := hg 2 49 2 rfl
  rw [k47] at g0
  rw [k48] at g1
  rw [k49] at g2
  obtain ⟨ha, hl2, hc, e1⟩ := slice_form u47 g0
  obtain ⟨ta, tl, tc, e3⟩ := slice_form u49 g2
  simp only [List.drop_zero, List.take_succ_cons, List.take_zero, List.drop_succ_cons, List.take_nil, List.cons.injEq, and_true] at e0 e1 e3 g1
  obtain ⟨a, len, cap, n2, cs2, e2, _, hm, hlen, hrow, hel⟩ := slice_read u48 (by rw [k55]; omega) g1
  rw [k55] at hlen hel
  obtain ⟨l, h5, h6, _⟩ := list_read (c := 3) (Q := fun _ => True) AtomD.cells hlen (fun i hi => by
    obtain ⟨y, hy⟩ := hel i hi
    obtain ⟨x, hx⟩ := atom_read hy
    exact ⟨x, hx, trivial⟩)
  refine ⟨⟨z, ha, hl2, hc, a, cap, l, ta, tl, tc⟩, ?_, by rw [← h6]; exact hrow, ?_⟩
  · subst h5
    rw [e0, e1, e2, e3]; rfl
  · show l.length < 2 ^ 63
    unfold maxLen at hm; omega
theorem rules_read {fuel : Nat} {v : Value} {y : DataW H × List MemPlace} (h : DataW.trod enc Try.prog W 0 (fun _ => true) true fuel 22 [v] = some y) :
    ∃ (a : Option Addr) (rs : List RuleD) (cap : Nat), v = .slice a rs.length cap ∧ Rules (Old W) W [] a rs ∧ rs.length < 2 ^ 63 ∧ ∀ r ∈ rs, r.body.length < 2 ^ 63 := by
  obtain ⟨a, len, cap, n2, cs2, e2, _, hm, hlen, hrow, hel⟩ := slice_read u22 (by rw [k53]; omega) h
  rw [k53] at hlen hel
  obtain ⟨l, h5, h6, h7⟩ := list_read (c := 4) (Q := fun x : RuleD => Row (Old W) W [] x.ba (x.body.flatMap AtomD.cells) ∧ x.body.length < 2 ^ 63) RuleD.cells hlen (fun i hi => by
    obtain ⟨y, hy⟩ := hel i hi
    exact rule_read hy)
  refine ⟨a, l, cap, by rw [h5]; exact e2, ⟨by rw [← h6]; exact hrow, fun r hr => (h7 r hr).1⟩, ?_, fun r hr => (h7 r hr).2⟩
  unfold maxLen at hm; omega
end
theorem Try.own : ownKnob Try.prog.godebug = none := by kernel_rfl
theorem Try.laidOut : laidOutB Try.prog = true := by kernel_rfl
end Go.Proofs.Ytdehpaikapbckaa
