/- Leaves: what is refused and recovered, small lists, the reference's check. -/
import Derived.Test.YtdehpaikapbckaaFacts
import Derived.Test.YtdehpaikapbckaaSpec
namespace Go.Proofs.Ytdehpaikapbckaa
open Go.Sl
theorem mixed : Try.prog.follows .mixedOrders = true := by kernel_rfl
variable {S : Nat → Prop} {w0 : World} {η : Heap}
def AtomD.cells (x : AtomD) : List Value := [.int .i64 x.rel, .bool x.neg, .slice x.aa x.al x.ac]
def RuleD.cells (x : RuleD) : List Value := [.int .i64 x.head, .slice x.ha x.hl x.hc, .slice x.ba x.body.length x.bc, .slice x.ta x.tl x.tc]
structure Rules (S : Nat → Prop) (w0 : World) (η : Heap) (a : Option Addr) (rs : List RuleD) : Prop where
  row : Row S w0 η a (rs.flatMap RuleD.cells)
  body : ∀ r ∈ rs, Row S w0 η r.ba (r.body.flatMap AtomD.cells)
theorem cells_len (x : RuleD) : x.cells.length = 4 := rfl
theorem acells_len (x : AtomD) : x.cells.length = 3 := rfl
theorem Rules.ad {a : Option Addr} {rs : List RuleD} (h : Rules S w0 η a rs) (hl : 0 < rs.length) : ∃ ad, a = some ad ∧ ad.spot = none := h.row.ad (by
  cases rs with
  | nil => simp at hl
  | cons r rs => simp [RuleD.cells])
theorem Rules.at {a : Option Addr} {rs : List RuleD} (h : Rules S w0 η a rs) {i : Nat} (hi : i < rs.length) (j : Nat) {v : Value} (hj : rs[i].cells[j]? = some v) : At S w0 η (sAt a (i * 4 + j)) v :=
  h.row.cell _ _ (by
    have hj4 : j < 4 := by have := (List.getElem?_eq_some_iff.1 hj).1; rw [cells_len] at this; exact this
    rw [flat_get 4 RuleD.cells cells_len rs i j hj4, List.getElem?_eq_getElem hi]; exact hj)
theorem Rules.bad {a : Option Addr} {rs : List RuleD} (h : Rules S w0 η a rs) {i : Nat} (hi : i < rs.length) (hl : 0 < rs[i].body.length) : ∃ ad, rs[i].ba = some ad ∧ ad.spot = none := (h.body rs[i] (by simp)).ad (by
  cases hb : rs[i].body with
  | nil => rw [hb] at hl; simp at hl
  | cons r rs => simp [AtomD.cells])
theorem Rules.bat {a : Option Addr} {rs : List RuleD} (h : Rules S w0 η a rs) {i : Nat} (hi : i < rs.length) {k : Nat} (hk : k < rs[i].body.length) (j : Nat) {v : Value} (hj : rs[i].body[k].cells[j]? = some v) : At S w0 η (sAt rs[i].ba (k * 3 + j)) v :=
  (h.body rs[i] (by simp)).cell _ _ (by
    have hj4 : j < 3 := by have := (List.getElem?_eq_some_iff.1 hj).1; rw [acells_len] at this; exact this
    rw [flat_get 3 AtomD.cells acells_len _ k j hj4, List.getElem?_eq_getElem hk]; exact hj)
theorem Rules.up {η' : Heap} {a : Option Addr} {rs : List RuleD} (h : Rules S w0 η a rs) (hs : ∀ seg ∈ η, seg ∈ η') : Rules S w0 η' a rs := ⟨h.row.up hs, fun r hr => (h.body r hr).up hs⟩
theorem Rules.ro {η' : Heap} {a : Option Addr} {rs : List RuleD} (h : Rules S w0 [] a rs) : Rules S w0 η' a rs := h.up (by simp)
theorem sAt_add (a : Option Addr) (k i : Nat) : (⟨(sAt a k).block, (sAt a k).off + i, none⟩ : Addr) = sAt a (k + i) := by simp [sAt, Nat.add_assoc]
theorem Rules.batA {a : Option Addr} {rs : List RuleD} (h : Rules S w0 η a rs) {i : Nat} (hi : i < rs.length) {k : Nat} (hk : k < rs[i].body.length) : ∀ j v, rs[i].body[k].cells[j]? = some v → At S w0 η ⟨(sAt rs[i].ba (k * 3)).block, (sAt rs[i].ba (k * 3)).off + j, none⟩ v := fun j v hj => by
  rw [sAt_add]; exact h.bat hi hk j hj
theorem Rules.atA {a : Option Addr} {rs : List RuleD} (h : Rules S w0 η a rs) {i : Nat} (hi : i < rs.length) : ∀ j v, rs[i].cells[j]? = some v → At S w0 η ⟨(sAt a (i * 4)).block, (sAt a (i * 4)).off + j, none⟩ v := fun j v hj => by
  rw [sAt_add]; exact h.at hi j hj
/-- Lists of lists. -/
def Lists (S : Nat → Prop) (w0 : World) (η : Heap) (a : Option Addr) (ls : List (List Int)) : Prop :=
  ∃ ps : List (Option Addr × Nat), ps.length = ls.length ∧ Row S w0 η a (List.zipWith (fun (p : Option Addr × Nat) (l : List Int) => Value.slice p.1 l.length p.2) ps ls) ∧ ∀ i (h1 : i < ps.length) (h2 : i < ls.length), Row S w0 η ps[i].1 (ints ls[i])

theorem stopped_nil (p : Value) : Rt Try.prog 25 [.nilIface, p].toArray S w0 η (fun _ η' => η' = η) := by
  have hF := open_wide
  refine Rt.of (fn := Try.f25) Try.func25 rfl rfl ?_
  refine T.seq ?_
  refine T.seq ?_
  refine T.region ?_
  refine TL.move hF rfl rfl ?_
  refine TL.binR hF rfl rfl (r := .bool true) (fun w => by kernel_rfl) rfl ?_
  refine TL.nil ?_
  refine TQ.then_n ?_
  refine T.cond_t rfl rfl ?_
  refine T.ret ?_
  refine TQ.then_r ?_
  refine TQ.rets [] _ rfl rfl rfl ?_
  rfl
theorem stopped_err (code : Int) {b : Nat} {old : Value} {η1 : Heap} : Rt Try.prog 25 [.iface 100 (.agg #[.int .i64 code]), .pointer (some ⟨b, 0, none⟩)].toArray S w0 ([(b, .cells #[old] 27 (0, 0))] :: η1) (fun _ η' => η' = [(b, .cells #[.int .i64 code] 27 (0, 0))] :: η1) := by
  have hF := open_wide
  refine Rt.of (fn := Try.f25) Try.func25 rfl rfl ?_
  refine T.seq ?_
  refine T.seq ?_
  refine T.region ?_
  refine TL.move hF rfl rfl ?_
  refine TL.binR hF rfl rfl (r := .bool false) (fun w => by kernel_rfl) rfl ?_
  refine TL.nil ?_
  refine TQ.then_n ?_
  refine T.cond_f rfl rfl ?_
  refine T.skip ?_
  refine TQ.then_n ?_
  refine T.seq ?_
  refine T.region ?_
  refine TL.move hF rfl rfl ?_
  refine TL.typeAssertR hF rfl (r := .tuple #[.agg #[.int .i64 code], .bool true]) (fun w => by kernel_rfl) rfl ?_
  refine TL.move hF rfl rfl ?_
  refine TL.extract hF rfl rfl rfl ?_
  refine TL.extract hF rfl rfl rfl ?_
  refine TL.alloc hF rfl (fun b4 => ?_)
  refine TL.storeAI hF [.int .i64 code] 0 rfl rfl rfl rfl (by simp [Value.oneCell']) (by simp [Value.cells]) ?_
  refine TL.assign hF rfl rfl ?_
  refine TL.nil ?_
  refine TQ.then_n ?_
  refine T.seq ?_
  refine T.seq ?_
  refine T.region ?_
  refine TL.move hF rfl rfl ?_
  refine TL.not hF rfl rfl ?_
  refine TL.nil ?_
  refine TQ.then_n ?_
  refine T.cond_f rfl rfl ?_
  refine T.skip ?_
  refine TQ.then_n ?_
  refine T.region ?_
  refine TL.move hF rfl rfl ?_
  refine TL.fieldAddr hF rfl rfl ?_
  refine TL.load hF rfl (by first | exact At.own' (i := 0) rfl rfl | exact At.own' (i := 1) rfl rfl | exact At.own' (i := 2) rfl rfl | exact At.own' (i := 3) rfl rfl | exact At.own' (i := 4) rfl rfl) rfl ?_
  refine TL.nilCheck hF rfl rfl ?_
  refine TL.storeI hF 1 rfl rfl rfl rfl (by simp) ?_
  refine TL.nil ?_
  refine TQ.norm ?_
  refine TQ.pop ?_
  refine TQ.rets [] _ rfl rfl rfl ?_
  rfl
/-- What 'must' panics with. -/
abbrev stopV (code : Int) : List PanicEntry := [{ v := .iface 100 (.agg #[.int .i64 code]), recovered := false }]
theorem must_ok (code : Int) : Rt Try.prog 38 [.bool true, .int .i64 code].toArray S w0 η (fun _ η' => η' = η) := by
  have hF := open_wide
  refine Rt.of (fn := Try.f38) Try.func38 rfl rfl ?_
  refine T.seq ?_
  refine T.region ?_
  refine TL.move hF rfl rfl ?_
  refine TL.not hF rfl rfl ?_
  refine TL.nil ?_
  refine TQ.then_n ?_
  refine T.cond_f rfl rfl ?_
  refine T.skip ?_
  refine TQ.norm ?_
  refine TQ.rets [] _ rfl rfl rfl ?_
  rfl
theorem must_no (code : Int) : RtE Try.prog 38 [.bool false, .int .i64 code].toArray S w0 η (fun _ _ => False) (fun ch η' => ch = stopV code ∧ η' = η) := by
  have hF := open_wide
  refine RtE.of (fn := Try.f38) Try.func38 rfl rfl ?_
  refine T.seq ?_
  refine T.region ?_
  refine TL.move hF rfl rfl ?_
  refine TL.not hF rfl rfl ?_
  refine TL.nil ?_
  refine TQ.then_n ?_
  refine T.cond_t rfl rfl ?_
  refine T.region ?_
  refine TL.move hF rfl rfl ?_
  refine TL.build hF rfl (r := .agg #[.int .i64 code]) (fun w => by kernel_rfl) rfl ?_
  refine TL.makeInterfaceR hF rfl (r := .iface 100 (.agg #[.int .i64 code])) (fun w => by kernel_rfl) rfl ?_
  refine TL.panic hF rfl ?_
  exact TQ.panicE ⟨rfl, rfl⟩ --stop
theorem must_fn (is : Bool) (code : Int) : RtE Try.prog 38 [.bool is, .int .i64 code].toArray S w0 η (fun _ η' => is = true ∧ η' = η) (fun ch η' => is = false ∧ ch = stopV code ∧ η' = η) := by
  cases is
  · exact (must_no code).mono (fun _ _ (h : False) => h.elim) (fun _ _ h => ⟨rfl, h⟩)
  · exact (must_ok code).toE.mono (fun _ _ h => ⟨rfl, h⟩) (fun _ _ (h : False) => h.elim)
theorem has_fn {a : Option Addr} {xs : List Int} {c : Nat} (n : Int) (hx : Row S w0 η a (ints xs)) (hl : xs.length < 2 ^ 63) :
    Rt Try.prog 44 [.slice a xs.length c, .int .i64 n].toArray S w0 η (fun v η' => v = .bool (decide (n ∈ xs)) ∧ η' = η) := by
  have hF := open_wide
  refine Rt.of (fn := Try.f44) Try.func44 rfl rfl ?_
  refine T.seq ?_
  refine T.region ?_
  refine TL.assign hF rfl rfl ?_
  refine TL.nil ?_
  refine TQ.then_n ?_
  refine T.seq ?_
  refine T.seq ?_
  refine T.region ?_
  refine TL.assign hF rfl rfl ?_
  refine TL.nil ?_
  refine TQ.then_n ?_
  refine T.block ?_
  refine T.loop (ι := Nat) (fun k => k ≤ xs.length ∧ n ∉ xs.take k) (fun k => [(0, .slice a xs.length c), (1, .int .i64 n), (5, .int .i64 (k : Int))]) (fun _ => η) (fun k => xs.length - k) 0 ⟨Nat.zero_le _, by simp⟩ ⟨rfl, rfl, rfl, trivial⟩ rfl ?_
  rintro k ⟨hk, hno⟩
  refine T.seq ?_
  refine T.seq ?_
  refine T.region ?_
  refine TL.move hF rfl rfl ?_
  refine TL.move hF rfl rfl ?_
  refine TL.len hF rfl rfl ?_
  refine TL.bin hF rfl rfl rfl rfl ?_
  refine TL.nil ?_
  refine TQ.then_n ?_
  first | refine T.cond_d rfl (fun ht9 => ?_) (fun ht9 => ?_) | refine T.cond _ rfl (fun ht9 => ?_) (fun ht9 => ?_)
  · refine T.skip ?_
    refine TQ.then_n ?_
    refine T.seq ?_
    refine T.block ?_
    refine T.seq ?_
    refine T.region ?_
    refine TL.move hF rfl rfl ?_
    refine TL.move hF rfl rfl ?_
    refine TL.indexAddr hF rfl rfl (hx.adi (i := k) (by simp; omega)) (by omega) (by omega) rfl ?_
    refine TL.load hF rfl (hx.int (i := k) (by omega)) rfl ?_
    refine TL.move hF rfl rfl ?_
    refine TL.bin hF rfl rfl rfl rfl ?_
    refine TL.nil ?_
    refine TQ.then_n ?_
    first | refine T.cond_d rfl (fun ht17 => ?_) (fun ht17 => ?_) | refine T.cond _ rfl (fun ht17 => ?_) (fun ht17 => ?_)
    · refine T.seq ?_
      refine T.region ?_
      refine TL.assign hF rfl rfl ?_
      refine TL.nil ?_
      refine TQ.then_n ?_
      refine T.ret ?_
      refine TQ.block_r ?_
      refine TQ.then_r ?_
      refine TQ.then_r ?_
      refine TQ.block_r ?_
      refine TQ.then_r ?_
      refine TQ.rets [4] _ rfl rfl rfl ?_
      exact ⟨by simp [retVal, show n ∈ xs from ht17 ▸ List.getElem_mem _], rfl⟩
    · refine T.skip ?_
      refine TQ.block_n ?_
      refine TQ.then_n ?_
      refine T.region ?_
      refine TL.move hF rfl rfl ?_
      refine TL.add hF rfl rfl (by omega) (by omega) rfl ?_
      refine TL.assign hF rfl rfl ?_
      refine TL.nil ?_
      refine TQ.round (k + 1) ⟨by omega, not_mem_succ (by omega) hno ht17⟩ (by omega) ⟨rfl, rfl, rfl, trivial⟩ rfl
  · refine T.exit ?_
    refine TQ.then_x ?_
    refine TQ.then_x ?_
    refine TQ.block_x ?_
    refine TQ.then_n ?_
    refine T.seq ?_
    refine T.region ?_
    refine TL.assign hF rfl rfl ?_
    refine TL.nil ?_
    refine TQ.then_n ?_
    refine T.ret ?_
    refine TQ.rets [4] _ rfl rfl rfl ?_
    rw [List.take_of_length_le (by omega)] at hno
    exact ⟨by simp [retVal, hno], rfl⟩
theorem in_fn (n rels : Int) : Rt Try.prog 53 [.int .i64 n, .int .i64 rels].toArray S w0 η (fun v η' => v = .bool (inR n rels) ∧ η' = η) := by
  have hF := open_wide
  refine Rt.of (fn := Try.f53) Try.func53 rfl rfl ?_
  refine T.seq ?_
  refine T.region ?_
  refine TL.assign hF rfl rfl ?_
  refine TL.nil ?_
  refine TQ.then_n ?_
  refine T.seq ?_
  refine T.region ?_
  refine TL.move hF rfl rfl ?_
  refine TL.bin hF rfl rfl rfl rfl ?_
  refine TL.move hF rfl rfl ?_
  refine TL.gd (t := 7) rfl (fun g1_7 => ?_) (fun g1_7 => ?_)
  · refine TL.on rfl rfl rfl (decide_eq_true g1_7) ?_
    refine TL.move hF rfl rfl ?_
    refine TL.on rfl rfl rfl (decide_eq_true g1_7) ?_
    refine TL.move hF rfl rfl ?_
    refine TL.on rfl rfl rfl (decide_eq_true g1_7) ?_
    refine TL.bin hF rfl rfl rfl rfl ?_
    refine TL.pickT hF rfl (decide_eq_true g1_7) rfl rfl ?_
    refine TL.assign hF rfl rfl ?_
    refine TL.nil ?_
    refine TQ.then_n ?_
    refine T.ret ?_
    refine TQ.rets [4] _ rfl rfl rfl ?_
    exact ⟨by simp [retVal, inR, g1_7, Int.not_lt.2, *], rfl⟩
  · refine TL.off hF rfl rfl rfl (decide_eq_false g1_7) rfl ?_
    refine TL.off hF rfl rfl rfl (decide_eq_false g1_7) rfl ?_
    refine TL.off hF rfl rfl rfl (decide_eq_false g1_7) rfl ?_
    refine TL.pickF hF rfl (decide_eq_false g1_7) rfl rfl ?_
    refine TL.assign hF rfl rfl ?_
    refine TL.nil ?_
    refine TQ.then_n ?_
    refine T.ret ?_
    refine TQ.rets [4] _ rfl rfl rfl ?_
    exact ⟨by simp [retVal, inR, g1_7, Int.not_lt.2, *], rfl⟩
theorem Where_fn {a : Option Addr} {xs : List Int} {c : Nat} (n : Int) (hx : Row S w0 η a (ints xs)) (hl : xs.length < 2 ^ 63) :
    Rt Try.prog 22 [.slice a xs.length c, .int .i64 n].toArray S w0 η (fun v η' => v = .int .i64 (whereA n xs 0) ∧ η' = η) := by
  have hF := open_wide
  refine Rt.of (fn := Try.f22) Try.func22 rfl rfl ?_
  refine T.seq ?_
  refine T.region ?_
  refine TL.assign hF rfl rfl ?_
  refine TL.nil ?_
  refine TQ.then_n ?_
  refine T.seq ?_
  refine T.seq ?_
  refine T.region ?_
  refine TL.assign hF rfl rfl ?_
  refine TL.nil ?_
  refine TQ.then_n ?_
  refine T.block ?_
  refine T.loop (ι := Nat) (fun k => k ≤ xs.length ∧ whereA n xs 0 = whereA n (xs.drop k) k) (fun k => [(0, .slice a xs.length c), (1, .int .i64 n), (5, .int .i64 (k : Int))]) (fun _ => η) (fun k => xs.length - k) 0 ⟨Nat.zero_le _, by simp⟩ ⟨rfl, rfl, rfl, trivial⟩ rfl ?_
  rintro k ⟨hk, hno⟩
  refine T.seq ?_
  refine T.seq ?_
  refine T.region ?_
  refine TL.move hF rfl rfl ?_
  refine TL.move hF rfl rfl ?_
  refine TL.len hF rfl rfl ?_
  refine TL.bin hF rfl rfl rfl rfl ?_
  refine TL.nil ?_
  refine TQ.then_n ?_
  first | refine T.cond_d rfl (fun ht9 => ?_) (fun ht9 => ?_) | refine T.cond _ rfl (fun ht9 => ?_) (fun ht9 => ?_)
  · refine T.skip ?_
    refine TQ.then_n ?_
    refine T.seq ?_
    refine T.block ?_
    refine T.seq ?_
    refine T.region ?_
    refine TL.move hF rfl rfl ?_
    refine TL.move hF rfl rfl ?_
    refine TL.indexAddr hF rfl rfl (hx.adi (i := k) (by simp; omega)) (by omega) (by omega) rfl ?_
    refine TL.load hF rfl (hx.int (i := k) (by omega)) rfl ?_
    refine TL.move hF rfl rfl ?_
    refine TL.bin hF rfl rfl rfl rfl ?_
    refine TL.nil ?_
    refine TQ.then_n ?_
    first | refine T.cond_d rfl (fun ht17 => ?_) (fun ht17 => ?_) | refine T.cond _ rfl (fun ht17 => ?_) (fun ht17 => ?_)
    · refine T.seq ?_
      refine T.region ?_
      refine TL.move hF rfl rfl ?_
      refine TL.assign hF rfl rfl ?_
      refine TL.nil ?_
      refine TQ.then_n ?_
      refine T.ret ?_
      refine TQ.block_r ?_
      refine TQ.then_r ?_
      refine TQ.then_r ?_
      refine TQ.block_r ?_
      refine TQ.then_r ?_
      refine TQ.rets [4] _ rfl rfl rfl ?_
      exact ⟨by rw [hno, drop_step (by omega), whereA, if_pos ht17]; rfl, rfl⟩
    · refine T.skip ?_
      refine TQ.block_n ?_
      refine TQ.then_n ?_
      refine T.region ?_
      refine TL.move hF rfl rfl ?_
      refine TL.add hF rfl rfl (by omega) (by omega) rfl ?_
      refine TL.assign hF rfl rfl ?_
      refine TL.nil ?_
      refine TQ.round (k + 1) ⟨by omega, by rw [hno, drop_step (by omega), whereA, if_neg ht17]⟩ (by omega) ⟨rfl, rfl, rfl, trivial⟩ rfl
  · refine T.exit ?_
    refine TQ.then_x ?_
    refine TQ.then_x ?_
    refine TQ.block_x ?_
    refine TQ.then_n ?_
    refine T.seq ?_
    refine T.region ?_
    refine TL.assign hF rfl rfl ?_
    refine TL.nil ?_
    refine TQ.then_n ?_
    refine T.ret ?_
    refine TQ.rets [4] _ rfl rfl rfl ?_
    exact ⟨by rw [hno, List.drop_of_length_le (by omega)]; rfl, rfl⟩
theorem Equal_fn {a b : Option Addr} {xs ys : List Int} {ca cb : Nat} (hx : Row S w0 η a (ints xs)) (hy : Row S w0 η b (ints ys)) (hl : xs.length < 2 ^ 63) :
    Rt Try.prog 19 [.slice a xs.length ca, .slice b ys.length cb].toArray S w0 η (fun v η' => v = .bool (decide (xs = ys)) ∧ η' = η) := by
  have hF := open_wide
  refine Rt.of (fn := Try.f19) Try.func19 rfl rfl ?_
  refine T.seq ?_
  refine T.region ?_
  refine TL.assign hF rfl rfl ?_
  refine TL.nil ?_
  refine TQ.then_n ?_
  refine T.seq ?_
  refine T.region ?_
  refine TL.move hF rfl rfl ?_
  refine TL.len hF rfl rfl ?_
  refine TL.move hF rfl rfl ?_
  refine TL.len hF rfl rfl ?_
  refine TL.bin hF rfl rfl rfl rfl ?_
  refine TL.assign hF rfl rfl ?_
  refine TL.nil ?_
  refine TQ.then_n ?_
  refine T.seq ?_
  refine T.seq ?_
  refine T.region ?_
  refine TL.assign hF rfl rfl ?_
  refine TL.nil ?_
  refine TQ.then_n ?_
  refine T.block ?_
  refine T.loop (ι := Nat × Bool) (fun i => i.1 ≤ xs.length ∧ (i.2 = true → xs.length = ys.length ∧ xs.take i.1 = ys.take i.1) ∧ (i.2 = false → xs ≠ ys)) (fun i => [(0, .slice a xs.length ca), (1, .slice b ys.length cb), (5, .bool i.2), (6, .int .i64 (i.1 : Int))]) (fun _ => η) (fun i => xs.length - i.1) (0, decide ((xs.length : Int) = ys.length)) ⟨Nat.zero_le _, fun h => ⟨by simpa [Int.ofNat_inj] using h, by simp⟩, fun h e => by subst e; simp at h⟩ ⟨rfl, rfl, rfl, rfl, trivial⟩ rfl ?_
  rintro ⟨k, s⟩ ⟨hk, hs1, hs2⟩
  simp only at hk hs1 hs2
  refine T.seq ?_
  refine T.seq ?_
  refine T.region ?_
  refine TL.move hF rfl rfl ?_
  refine TL.move hF rfl rfl ?_
  refine TL.gb (t := 13) rfl (fun g3_13 => ?_) (fun g3_13 => ?_)
  · refine TL.on rfl rfl rfl g3_13 ?_
    refine TL.move hF rfl rfl ?_
    refine TL.on rfl rfl rfl g3_13 ?_
    refine TL.move hF rfl rfl ?_
    refine TL.on rfl rfl rfl g3_13 ?_
    refine TL.len hF rfl rfl ?_
    refine TL.on rfl rfl rfl g3_13 ?_
    refine TL.bin hF rfl rfl rfl rfl ?_
    refine TL.pickT hF rfl g3_13 rfl rfl ?_
    refine TL.nil ?_
    refine TQ.then_n ?_
    first | refine T.cond_d rfl (fun ht18 => ?_) (fun ht18 => ?_) | refine T.cond _ rfl (fun ht18 => ?_) (fun ht18 => ?_)
    · refine T.skip ?_
      refine TQ.then_n ?_
      refine T.seq ?_
      refine T.block ?_
      refine T.draw ?_
      refine DR.stepV [_] rfl [(0, _, none)] rfl rfl ⟨⟨rfl, by kernel_rfl⟩, trivial⟩ (fun ext => TL.move hF rfl rfl TL.fin) ?_
      refine DR.stepV [_, _] rfl [(6, _, none)] rfl rfl ⟨⟨rfl, by kernel_rfl⟩, trivial⟩ (fun ext => TL.move hF rfl rfl TL.fin) ?_
      refine DR.stepV [_, _, _] rfl [(21, _, some 0), (22, _, some 1)] rfl rfl ⟨⟨rfl, rfl, rfl⟩, ⟨rfl, rfl, rfl⟩, trivial⟩ (fun ext => TL.indexAddr hF rfl rfl (hx.adi (i := k) (by simp; omega)) (by omega) (by omega) rfl TL.fin) ?_
      refine DR.stepV [_, _, _, _] rfl [(23, _, some 2)] rfl rfl ⟨⟨rfl, rfl, rfl⟩, trivial⟩ (fun ext => TL.load hF rfl (hx.int (i := k) (by omega)) rfl TL.fin) ?_
      refine DR.stepV [_, _, _, _, _] rfl [(1, _, none)] rfl rfl ⟨⟨rfl, by kernel_rfl⟩, trivial⟩ (fun ext => TL.move hF rfl rfl TL.fin) ?_
      refine DR.stepV [_, _, _, _, _, _] rfl [(6, _, none)] rfl rfl ⟨⟨rfl, by kernel_rfl⟩, trivial⟩ (fun ext => TL.move hF rfl rfl TL.fin) ?_
      refine DR.stepV [_, _, _, _, _, _, _] rfl [(25, _, some 4), (26, _, some 5)] rfl rfl ⟨⟨rfl, rfl, rfl⟩, ⟨rfl, rfl, rfl⟩, trivial⟩ (fun ext => TL.indexAddr hF rfl rfl (hy.adi (i := k) (by simp; have := (hs1 g3_13).1; omega)) (by omega) (by have := (hs1 g3_13).1; omega) rfl TL.fin) ?_
      refine DR.stepV [_, _, _, _, _, _, _, _] rfl [(27, _, some 6)] rfl rfl ⟨⟨rfl, rfl, rfl⟩, trivial⟩ (fun ext => TL.load hF rfl (hy.int (i := k) (by have := (hs1 g3_13).1; omega)) rfl TL.fin) ?_
      refine DR.done [(28, _), (27, _), (26, _), (25, _), (24, _), (23, _), (22, _), (21, _)] [_, _] mixed (by kernel_rfl) (by kernel_rfl) (by kernel_rfl) rfl rfl ?_
      refine TL.bin hF rfl rfl rfl rfl ?_
      refine TL.assign hF rfl rfl ?_
      refine TL.nil ?_
      refine TQ.block_n ?_
      refine TQ.then_n ?_
      refine T.region ?_
      refine TL.move hF rfl rfl ?_
      refine TL.add hF rfl rfl (by omega) (by omega) rfl ?_
      refine TL.assign hF rfl rfl ?_
      refine TL.nil ?_
      refine TQ.round (k + 1, decide (xs[k]'(by omega) = ys[k]'(by have := (hs1 g3_13).1; omega))) ⟨by simp only; omega, fun h => ⟨(hs1 g3_13).1, take_succ_eq _ _ (hs1 g3_13).2 (of_decide_eq_true h)⟩, fun h => ne_of_getElem _ _ (of_decide_eq_false h)⟩ (by simp only; omega) ⟨rfl, rfl, rfl, rfl, trivial⟩ rfl
    · refine T.exit ?_
      refine TQ.then_x ?_
      refine TQ.then_x ?_
      refine TQ.block_x ?_
      refine TQ.then_n ?_
      refine T.seq ?_
      refine T.region ?_
      refine TL.move hF rfl rfl ?_
      refine TL.assign hF rfl rfl ?_
      refine TL.nil ?_
      refine TQ.then_n ?_
      refine T.ret ?_
      refine TQ.rets [4] _ rfl rfl rfl ?_
      subst g3_13
      have h1 := hs1 rfl
      have h2 : xs = ys := by have := h1.2; rwa [List.take_of_length_le (by omega), List.take_of_length_le (by omega)] at this
      exact ⟨by simp [retVal, h2], rfl⟩
  · refine TL.off hF rfl rfl rfl g3_13 rfl ?_
    refine TL.off hF rfl rfl rfl g3_13 rfl ?_
    refine TL.off hF rfl rfl rfl g3_13 rfl ?_
    refine TL.off hF rfl rfl rfl g3_13 rfl ?_
    refine TL.pickF hF rfl g3_13 rfl rfl ?_
    refine TL.nil ?_
    refine TQ.then_n ?_
    refine T.cond_f rfl rfl ?_
    refine T.exit ?_
    refine TQ.then_x ?_
    refine TQ.then_x ?_
    refine TQ.block_x ?_
    refine TQ.then_n ?_
    refine T.seq ?_
    refine T.region ?_
    refine TL.move hF rfl rfl ?_
    refine TL.assign hF rfl rfl ?_
    refine TL.nil ?_
    refine TQ.then_n ?_
    refine T.ret ?_
    refine TQ.rets [4] _ rfl rfl rfl ?_
    subst g3_13
    exact ⟨by simp [retVal, hs2 rfl], rfl⟩
theorem less_fn {a b : Option Addr} {xs ys : List Int} {ca cb : Nat} (hx : Row S w0 η a (ints xs)) (hy : Row S w0 η b (ints ys)) (hl : xs.length < 2 ^ 63) :
    Rt Try.prog 42 [.slice a xs.length ca, .slice b ys.length cb].toArray S w0 η (fun v η' => v = .bool (less xs ys) ∧ η' = η) := by
  have hF := open_wide
  refine Rt.of (fn := Try.f42) Try.func42 rfl rfl ?_
  refine T.seq ?_
  refine T.region ?_
  refine TL.assign hF rfl rfl ?_
  refine TL.nil ?_
  refine TQ.then_n ?_
  refine T.seq ?_
  refine T.seq ?_
  refine T.region ?_
  refine TL.move hF rfl rfl ?_
  refine TL.len hF rfl rfl ?_
  refine TL.move hF rfl rfl ?_
  refine TL.len hF rfl rfl ?_
  refine TL.bin hF rfl rfl rfl rfl ?_
  refine TL.nil ?_
  refine TQ.then_n ?_
  first | refine T.cond_d rfl (fun ht10 => ?_) (fun ht10 => ?_) | refine T.cond _ rfl (fun ht10 => ?_) (fun ht10 => ?_)
  · refine T.seq ?_
    refine T.region ?_
    refine TL.move hF rfl rfl ?_
    refine TL.len hF rfl rfl ?_
    refine TL.move hF rfl rfl ?_
    refine TL.len hF rfl rfl ?_
    refine TL.bin hF rfl rfl rfl rfl ?_
    refine TL.assign hF rfl rfl ?_
    refine TL.nil ?_
    refine TQ.then_n ?_
    refine T.ret ?_
    refine TQ.then_r ?_
    refine TQ.rets [4] _ rfl rfl rfl ?_
    exact ⟨by simp [retVal, less]; omega, rfl⟩
  · refine T.skip ?_
    refine TQ.then_n ?_
    refine T.seq ?_
    refine T.seq ?_
    refine T.region ?_
    refine TL.assign hF rfl rfl ?_
    refine TL.nil ?_
    refine TQ.then_n ?_
    refine T.block ?_
    have hlen : xs.length = ys.length := by omega
    refine T.loop (ι := Nat) (fun k => k ≤ xs.length ∧ less xs ys = lessA (xs.drop k) (ys.drop k)) (fun k => [(0, .slice a xs.length ca), (1, .slice b ys.length cb), (5, .int .i64 (k : Int))]) (fun _ => η) (fun k => xs.length - k) 0 ⟨Nat.zero_le _, by simp [less, hlen]⟩ ⟨rfl, rfl, rfl, trivial⟩ rfl ?_
    rintro k ⟨hk, hs⟩
    refine T.seq ?_
    refine T.seq ?_
    refine T.region ?_
    refine TL.move hF rfl rfl ?_
    refine TL.move hF rfl rfl ?_
    refine TL.len hF rfl rfl ?_
    refine TL.bin hF rfl rfl rfl rfl ?_
    refine TL.nil ?_
    refine TQ.then_n ?_
    first | refine T.cond_d rfl (fun ht19 => ?_) (fun ht19 => ?_) | refine T.cond _ rfl (fun ht19 => ?_) (fun ht19 => ?_)
    · refine T.skip ?_
      refine TQ.then_n ?_
      refine T.seq ?_
      refine T.block ?_
      refine T.seq ?_
      refine T.draw ?_
      refine DR.stepV [_] rfl [(0, _, none)] rfl rfl ⟨⟨rfl, by kernel_rfl⟩, trivial⟩ (fun ext => TL.move hF rfl rfl TL.fin) ?_
      refine DR.stepV [_, _] rfl [(5, _, none)] rfl rfl ⟨⟨rfl, by kernel_rfl⟩, trivial⟩ (fun ext => TL.move hF rfl rfl TL.fin) ?_
      refine DR.stepV [_, _, _] rfl [(22, _, some 0), (23, _, some 1)] rfl rfl ⟨⟨rfl, rfl, rfl⟩, ⟨rfl, rfl, rfl⟩, trivial⟩ (fun ext => TL.indexAddr hF rfl rfl (hx.adi (i := k) (by simp; omega)) (by omega) (by omega) rfl TL.fin) ?_
      refine DR.stepV [_, _, _, _] rfl [(24, _, some 2)] rfl rfl ⟨⟨rfl, rfl, rfl⟩, trivial⟩ (fun ext => TL.load hF rfl (hx.int (i := k) (by omega)) rfl TL.fin) ?_
      refine DR.stepV [_, _, _, _, _] rfl [(1, _, none)] rfl rfl ⟨⟨rfl, by kernel_rfl⟩, trivial⟩ (fun ext => TL.move hF rfl rfl TL.fin) ?_
      refine DR.stepV [_, _, _, _, _, _] rfl [(5, _, none)] rfl rfl ⟨⟨rfl, by kernel_rfl⟩, trivial⟩ (fun ext => TL.move hF rfl rfl TL.fin) ?_
      refine DR.stepV [_, _, _, _, _, _, _] rfl [(26, _, some 4), (27, _, some 5)] rfl rfl ⟨⟨rfl, rfl, rfl⟩, ⟨rfl, rfl, rfl⟩, trivial⟩ (fun ext => TL.indexAddr hF rfl rfl (hy.adi (i := k) (by simp; omega)) (by omega) (by omega) rfl TL.fin) ?_
      refine DR.stepV [_, _, _, _, _, _, _, _] rfl [(28, _, some 6)] rfl rfl ⟨⟨rfl, rfl, rfl⟩, trivial⟩ (fun ext => TL.load hF rfl (hy.int (i := k) (by omega)) rfl TL.fin) ?_
      refine DR.done [(29, _), (28, _), (27, _), (26, _), (25, _), (24, _), (23, _), (22, _)] [_] mixed (by kernel_rfl) (by kernel_rfl) (by kernel_rfl) rfl rfl ?_
      refine TL.bin hF rfl rfl rfl rfl ?_
      refine TL.nil ?_
      refine TQ.then_n ?_
      first | refine T.cond_d rfl (fun ht30 => ?_) (fun ht30 => ?_) | refine T.cond _ rfl (fun ht30 => ?_) (fun ht30 => ?_)
      · refine T.seq ?_
        refine T.draw ?_
        refine DR.stepV [_] rfl [(0, _, none)] rfl rfl ⟨⟨rfl, by kernel_rfl⟩, trivial⟩ (fun ext => TL.move hF rfl rfl TL.fin) ?_
        refine DR.stepV [_, _] rfl [(5, _, none)] rfl rfl ⟨⟨rfl, by kernel_rfl⟩, trivial⟩ (fun ext => TL.move hF rfl rfl TL.fin) ?_
        refine DR.stepV [_, _, _] rfl [(31, _, some 0), (32, _, some 1)] rfl rfl ⟨⟨rfl, rfl, rfl⟩, ⟨rfl, rfl, rfl⟩, trivial⟩ (fun ext => TL.indexAddr hF rfl rfl (hx.adi (i := k) (by simp; omega)) (by omega) (by omega) rfl TL.fin) ?_
        refine DR.stepV [_, _, _, _] rfl [(33, _, some 2)] rfl rfl ⟨⟨rfl, rfl, rfl⟩, trivial⟩ (fun ext => TL.load hF rfl (hx.int (i := k) (by omega)) rfl TL.fin) ?_
        refine DR.stepV [_, _, _, _, _] rfl [(1, _, none)] rfl rfl ⟨⟨rfl, by kernel_rfl⟩, trivial⟩ (fun ext => TL.move hF rfl rfl TL.fin) ?_
        refine DR.stepV [_, _, _, _, _, _] rfl [(5, _, none)] rfl rfl ⟨⟨rfl, by kernel_rfl⟩, trivial⟩ (fun ext => TL.move hF rfl rfl TL.fin) ?_
        refine DR.stepV [_, _, _, _, _, _, _] rfl [(35, _, some 4), (36, _, some 5)] rfl rfl ⟨⟨rfl, rfl, rfl⟩, ⟨rfl, rfl, rfl⟩, trivial⟩ (fun ext => TL.indexAddr hF rfl rfl (hy.adi (i := k) (by simp; omega)) (by omega) (by omega) rfl TL.fin) ?_
        refine DR.stepV [_, _, _, _, _, _, _, _] rfl [(37, _, some 6)] rfl rfl ⟨⟨rfl, rfl, rfl⟩, trivial⟩ (fun ext => TL.load hF rfl (hy.int (i := k) (by omega)) rfl TL.fin) ?_
        refine DR.done [(38, _), (37, _), (36, _), (35, _), (34, _), (33, _), (32, _), (31, _)] [_, _] mixed (by kernel_rfl) (by kernel_rfl) (by kernel_rfl) rfl rfl ?_
        refine TL.bin hF rfl rfl rfl rfl ?_
        refine TL.assign hF rfl rfl ?_
        refine TL.nil ?_
        refine TQ.then_n ?_
        refine T.ret ?_
        refine TQ.block_r ?_
        refine TQ.then_r ?_
        refine TQ.then_r ?_
        refine TQ.block_r ?_
        refine TQ.then_r ?_
        refine TQ.rets [4] _ rfl rfl rfl ?_
        exact ⟨by rw [hs, drop_step (by omega), drop_step (l := ys) (by omega), lessA, if_pos ht30]; rfl, rfl⟩
      · refine T.skip ?_
        refine TQ.block_n ?_
        refine TQ.then_n ?_
        refine T.region ?_
        refine TL.move hF rfl rfl ?_
        refine TL.add hF rfl rfl (by omega) (by omega) rfl ?_
        refine TL.assign hF rfl rfl ?_
        refine TL.nil ?_
        refine TQ.round (k + 1) ⟨by omega, by rw [hs, drop_step (by omega), drop_step (l := ys) (by omega), lessA, if_neg ht30]⟩ (by omega) ⟨rfl, rfl, rfl, trivial⟩ rfl
    · refine T.exit ?_
      refine TQ.then_x ?_
      refine TQ.then_x ?_
      refine TQ.block_x ?_
      refine TQ.then_n ?_
      refine T.seq ?_
      refine T.region ?_
      refine TL.assign hF rfl rfl ?_
      refine TL.nil ?_
      refine TQ.then_n ?_
      refine T.ret ?_
      refine TQ.rets [4] _ rfl rfl rfl ?_
      exact ⟨by rw [hs, List.drop_of_length_le (by omega)]; rfl, rfl⟩
end Go.Proofs.Ytdehpaikapbckaa
