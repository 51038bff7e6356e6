/- Several texts in one. -/
import Derived.Test.YtdehpaikapbckaaPb
import Derived.Test.YtdehpaikapbckaaPa
/- What loose rules say: the words of the chapter, in plain Lean. -/
namespace Go.Proofs.Ytdehpaikapbckaa
/-- A loose rule, and an atom, as they lie in memory (addresses and capacities of their lists go along). -/
structure AtomD where
  rel : Int
  neg : Bool
  aa : Option Addr
  al : Nat
  ac : Nat
structure RuleD where
  head : Int
  ha : Option Addr
  hl : Nat
  hc : Nat
  ba : Option Addr
  bc : Nat
  body : List AtomD
  ta : Option Addr
  tl : Nat
  tc : Nat
def inR (n rels : Int) : Bool := decide (0 ≤ n) && decide (n < rels)
def atomsOk (rels : Int) : List AtomD → Bool
  | [] => true
  | x :: r => inR x.rel rels && atomsOk rels r
def checkR (rels : Int) (r : RuleD) : Int := if 6 < r.body.length then 3 else if inR r.head rels = false then 2 else if atomsOk rels r.body then 0 else 2
def errs (rels : Int) : List RuleD → Int
  | [] => 0
  | r :: rs => if checkR rels r = 0 then errs rels rs else checkR rels r
def check (rels : Int) (rs : List RuleD) : Int := if rels < 1 then 1 else if 48 < rels then 1 else if 60 < rs.length then 3 else errs rels rs
def hit (b : Int) (denied : Bool) (x : AtomD) : Bool := decide (x.rel = b) && (x.neg || !denied)
def usesA (b : Int) (denied : Bool) : List AtomD → Bool
  | [] => false
  | x :: r => hit b denied x || usesA b denied r
def uses (a b : Int) (denied : Bool) : List RuleD → Bool
  | [] => false
  | r :: rs => (decide (r.head = a) && usesA b denied r.body) || uses a b denied rs
/-- less: shorter, or less at the first place at which they differ. -/
def lessA : List Int → List Int → Bool
  | x :: xs, y :: ys => if x ≠ y then decide (x < y) else lessA xs ys
  | _, _ => false
def less (a b : List Int) : Bool := if a.length ≠ b.length then decide (a.length < b.length) else lessA a b
def whereA (n : Int) : List Int → Nat → Int
  | [], _ => -1
  | x :: xs, i => if x = n then i else whereA n xs (i + 1)
theorem drop_step {α : Type} {l : List α} {k : Nat} (h : k < l.length) : l.drop k = l[k] :: l.drop (k + 1) := List.drop_eq_getElem_cons h
theorem not_mem_succ {xs : List Int} {n : Int} {k : Nat} (hk : k < xs.length) (h : n ∉ xs.take k) (hne : xs[k] ≠ n) : n ∉ xs.take (k + 1) := by
  rw [List.take_succ_eq_append_getElem hk]
  simp only [List.mem_append, List.mem_singleton, not_or]
  exact ⟨h, fun e => hne e.symm⟩
theorem take_succ_eq {α : Type} {xs ys : List α} {k : Nat} (h1 : k < xs.length) (h2 : k < ys.length) (h : xs.take k = ys.take k) (he : xs[k] = ys[k]) : xs.take (k + 1) = ys.take (k + 1) := by
  rw [List.take_succ_eq_append_getElem h1, List.take_succ_eq_append_getElem h2, h, he]
theorem ne_of_getElem {α : Type} {xs ys : List α} {k : Nat} (h1 : k < xs.length) (h2 : k < ys.length) (he : xs[k] ≠ ys[k]) : xs ≠ ys := fun e => he (by subst e; rfl)
end Go.Proofs.Ytdehpaikapbckaa
/- Leaves: what is refused and recovered, small lists, the reference's check. -/
namespace Go.Proofs.Ytdehpaikapbckaa
open Go.Sl
theorem mixed : Try.prog.follows .mixedOrders = true := by kernel_rfl
variable {S : Nat → Prop} {w0 : World} {η : Heap}
def AtomD.cells (x : AtomD) : List Value := [.int .i64 x.rel, .bool x.neg, .slice x.aa x.al x.ac]
def RuleD.cells (x : RuleD) : List Value := [.int .i64 x.head, .slice x.ha x.hl x.hc, .slice x.ba x.body.length x.bc, .slice x.ta x.tl x.tc]
structure Rules (S : Nat → Prop) (w0 : World) (η : Heap) (a : Option Addr) (rs : List RuleD) : Prop where
  row : Row S w0 η a (rs.flatMap RuleD.cells)
  body : ∀ r ∈ rs, Row S w0 η r.ba (r.body.flatMap AtomD.cells)
theorem cells_len (x : RuleD) : x.cells.length = 4 := rfl
theorem acells_len (x : AtomD) : x.cells.length = 3 := rfl
theorem Rules.ad {a : Option Addr} {rs : List RuleD} (h : Rules S w0 η a rs) (hl : 0 < rs.length) : ∃ ad, a = some ad ∧ ad.spot = none := h.row.ad (by
  cases rs with
  | nil => simp at hl
  | cons r rs => simp [RuleD.cells])
theorem Rules.at {a : Option Addr} {rs : List RuleD} (h : Rules S w0 η a rs) {i : Nat} (hi : i < rs.length) (j : Nat) {v : Value} (hj : rs[i].cells[j]? = some v) : At S w0 η (sAt a (i * 4 + j)) v :=
  h.row.cell _ _ (by
    have hj4 : j < 4 := by have := (List.getElem?_eq_some_iff.1 hj).1; rw [cells_len] at this; exact this
    rw [flat_get 4 RuleD.cells cells_len rs i j hj4, List.getElem?_eq_getElem hi]; exact hj)
theorem Rules.bad {a : Option Addr} {rs : List RuleD} (h : Rules S w0 η a rs) {i : Nat} (hi : i < rs.length) (hl : 0 < rs[i].body.length) : ∃ ad, rs[i].ba = some ad ∧ ad.spot = none := (h.body rs[i] (by simp)).ad (by
  cases hb : rs[i].body with
  | nil => rw [hb] at hl; simp at hl
  | cons r rs => simp [AtomD.cells])
theorem Rules.bat {a : Option Addr} {rs : List RuleD} (h : Rules S w0 η a rs) {i : Nat} (hi : i < rs.length) {k : Nat} (hk : k < rs[i].body.length) (j : Nat) {v : Value} (hj : rs[i].body[k].cells[j]? = some v) : At S w0 η (sAt rs[i].ba (k * 3 + j)) v :=
  (h.body rs[i] (by simp)).cell _ _ (by
    have hj4 : j < 3 := by have := (List.getElem?_eq_some_iff.1 hj).1; rw [acells_len] at this; exact this
    rw [flat_get 3 AtomD.cells acells_len _ k j hj4, List.getElem?_eq_getElem hk]; exact hj)
theorem Rules.up {η' : Heap} {a : Option Addr} {rs : List RuleD} (h : Rules S w0 η a rs) (hs : ∀ seg ∈ η, seg ∈ η') : Rules S w0 η' a rs := ⟨h.row.up hs, fun r hr => (h.body r hr).up hs⟩
theorem Rules.ro {η' : Heap} {a : Option Addr} {rs : List RuleD} (h : Rules S w0 [] a rs) : Rules S w0 η' a rs := h.up (by simp)
theorem sAt_add (a : Option Addr) (k i : Nat) : (⟨(sAt a k).block, (sAt a k).off + i, none⟩ : Addr) = sAt a (k + i) := by simp [sAt, Nat.add_assoc]
theorem Rules.batA {a : Option Addr} {rs : List RuleD} (h : Rules S w0 η a rs) {i : Nat} (hi : i < rs.length) {k : Nat} (hk : k < rs[i].body.length) : ∀ j v, rs[i].body[k].cells[j]? = some v → At S w0 η ⟨(sAt rs[i].ba (k * 3)).block, (sAt rs[i].ba (k * 3)).off + j, none⟩ v := fun j v hj => by
  rw [sAt_add]; exact h.bat hi hk j hj
theorem Rules.atA {a : Option Addr} {rs : List RuleD} (h : Rules S w0 η a rs) {i : Nat} (hi : i < rs.length) : ∀ j v, rs[i].cells[j]? = some v → At S w0 η ⟨(sAt a (i * 4)).block, (sAt a (i * 4)).off + j, none⟩ v := fun j v hj => by
  rw [sAt_add]; exact h.at hi j hj
/-- Lists of lists. -/
def Lists (S : Nat → Prop) (w0 : World) (η : Heap) (a : Option Addr) (ls : List (List Int)) : Prop :=
  ∃ ps : List (Option Addr × Nat), ps.length = ls.length ∧ Row S w0 η a (List.zipWith (fun (p : Option Addr × Nat) (l : List Int) => Value.slice p.1 l.length p.2) ps ls) ∧ ∀ i (h1 : i < ps.length) (h2 : i < ls.length), Row S w0 η ps[i].1 (ints ls[i])

theorem stopped_nil (p : Value) : Rt Try.prog 25 [.nilIface, p].toArray S w0 η (fun _ η' => η' = η) := by
  have hF := open_wide
  refine Rt.of (fn := Try.f25) Try.func25 rfl rfl ?_
  refine T.seq ?_
  refine T.seq ?_
  refine T.region ?_
  refine TL.move hF rfl rfl ?_
  refine TL.binR hF rfl rfl (r := .bool true) (fun w => by kernel_rfl) rfl ?_
  refine TL.nil ?_
  refine TQ.then_n ?_
  refine T.cond_t rfl rfl ?_
  refine T.ret ?_
  refine TQ.then_r ?_
  refine TQ.rets [] _ rfl rfl rfl ?_
  rfl
theorem stopped_err (code : Int) {b : Nat} {old : Value} {η1 : Heap} : Rt Try.prog 25 [.iface 100 (.agg #[.int .i64 code]), .pointer (some ⟨b, 0, none⟩)].toArray S w0 ([(b, .cells #[old] 27 (0, 0))] :: η1) (fun _ η' => η' = [(b, .cells #[.int .i64 code] 27 (0, 0))] :: η1) := by
  have hF := open_wide
  refine Rt.of (fn := Try.f25) Try.func25 rfl rfl ?_
  refine T.seq ?_
  refine T.seq ?_
  refine T.region ?_
  refine TL.move hF rfl rfl ?_
  refine TL.binR hF rfl rfl (r := .bool false) (fun w => by kernel_rfl) rfl ?_
  refine TL.nil ?_
  refine TQ.then_n ?_
  refine T.cond_f rfl rfl ?_
  refine T.skip ?_
  refine TQ.then_n ?_
  refine T.seq ?_
  refine T.region ?_
  refine TL.move hF rfl rfl ?_
  refine TL.typeAssertR hF rfl (r := .tuple #[.agg #[.int .i64 code], .bool true]) (fun w => by kernel_rfl) rfl ?_
  refine TL.move hF rfl rfl ?_
  refine TL.extract hF rfl rfl rfl ?_
  refine TL.extract hF rfl rfl rfl ?_
  refine TL.alloc hF rfl (fun b4 => ?_)
  refine TL.storeAI hF [.int .i64 code] 0 rfl rfl rfl rfl (by simp [Value.oneCell']) (by simp [Value.cells]) ?_
  refine TL.assign hF rfl rfl ?_
  refine TL.nil ?_
  refine TQ.then_n ?_
  refine T.seq ?_
  refine T.seq ?_
  refine T.region ?_
  refine TL.move hF rfl rfl ?_
  refine TL.not hF rfl rfl ?_
  refine TL.nil ?_
  refine TQ.then_n ?_
  refine T.cond_f rfl rfl ?_
  refine T.skip ?_
  refine TQ.then_n ?_
  refine T.region ?_
  refine TL.move hF rfl rfl ?_
  refine TL.fieldAddr hF rfl rfl ?_
  refine TL.load hF rfl (by first | exact At.own' (i := 0) rfl rfl | exact At.own' (i := 1) rfl rfl | exact At.own' (i := 2) rfl rfl | exact At.own' (i := 3) rfl rfl | exact At.own' (i := 4) rfl rfl) rfl ?_
  refine TL.nilCheck hF rfl rfl ?_
  refine TL.storeI hF 1 rfl rfl rfl rfl (by simp) ?_
  refine TL.nil ?_
  refine TQ.norm ?_
  refine TQ.pop ?_
  refine TQ.rets [] _ rfl rfl rfl ?_
  rfl
/-- What 'must' panics with. -/
abbrev stopV (code : Int) : List PanicEntry := [{ v := .iface 100 (.agg #[.int .i64 code]), recovered := false }]
theorem must_ok (code : Int) : Rt Try.prog 38 [.bool true, .int .i64 code].toArray S w0 η (fun _ η' => η' = η) := by
  have hF := open_wide
  refine Rt.of (fn := Try.f38) Try.func38 rfl rfl ?_
  refine T.seq ?_
  refine T.region ?_
  refine TL.move hF rfl rfl ?_
  refine TL.not hF rfl rfl ?_
  refine TL.nil ?_
  refine TQ.then_n ?_
  refine T.cond_f rfl rfl ?_
  refine T.skip ?_
  refine TQ.norm ?_
  refine TQ.rets [] _ rfl rfl rfl ?_
  rfl
theorem must_no (code : Int) : RtE Try.prog 38 [.bool false, .int .i64 code].toArray S w0 η (fun _ _ => False) (fun ch η' => ch = stopV code ∧ η' = η) := by
  have hF := open_wide
  refine RtE.of (fn := Try.f38) Try.func38 rfl rfl ?_
  refine T.seq ?_
  refine T.region ?_
  refine TL.move hF rfl rfl ?_
  refine TL.not hF rfl rfl ?_
  refine TL.nil ?_
  refine TQ.then_n ?_
  refine T.cond_t rfl rfl ?_
  refine T.region ?_
  refine TL.move hF rfl rfl ?_
  refine TL.build hF rfl (r := .agg #[.int .i64 code]) (fun w => by kernel_rfl) rfl ?_
  refine TL.makeInterfaceR hF rfl (r := .iface 100 (.agg #[.int .i64 code])) (fun w => by kernel_rfl) rfl ?_
  refine TL.panic hF rfl ?_
  exact TQ.panicE ⟨rfl, rfl⟩ --stop
theorem must_fn (is : Bool) (code : Int) : RtE Try.prog 38 [.bool is, .int .i64 code].toArray S w0 η (fun _ η' => is = true ∧ η' = η) (fun ch η' => is = false ∧ ch = stopV code ∧ η' = η) := by
  cases is
  · exact (must_no code).mono (fun _ _ (h : False) => h.elim) (fun _ _ h => ⟨rfl, h⟩)
  · exact (must_ok code).toE.mono (fun _ _ h => ⟨rfl, h⟩) (fun _ _ (h : False) => h.elim)
theorem has_fn {a : Option Addr} {xs : List Int} {c : Nat} (n : Int) (hx : Row S w0 η a (ints xs)) (hl : xs.length < 2 ^ 63) :
    Rt Try.prog 44 [.slice a xs.length c, .int .i64 n].toArray S w0 η (fun v η' => v = .bool (decide (n ∈ xs)) ∧ η' = η) := by
  have hF := open_wide
  refine Rt.of (fn := Try.f44) Try.func44 rfl rfl ?_
  refine T.seq ?_
  refine T.region ?_
  refine TL.assign hF rfl rfl ?_
  refine TL.nil ?_
  refine TQ.then_n ?_
  refine T.seq ?_
  refine T.seq ?_
  refine T.region ?_
  refine TL.assign hF rfl rfl ?_
  refine TL.nil ?_
  refine TQ.then_n ?_
  refine T.block ?_
  refine T.loop (ι := Nat) (fun k => k ≤ xs.length ∧ n ∉ xs.take k) (fun k => [(0, .slice a xs.length c), (1, .int .i64 n), (5, .int .i64 (k : Int))]) (fun _ => η) (fun k => xs.length - k) 0 ⟨Nat.zero_le _, by simp⟩ ⟨rfl, rfl, rfl, trivial⟩ rfl ?_
  rintro k ⟨hk, hno⟩
  refine T.seq ?_
  refine T.seq ?_
  refine T.region ?_
  refine TL.move hF rfl rfl ?_
  refine TL.move hF rfl rfl ?_
  refine TL.len hF rfl rfl ?_
  refine TL.bin hF rfl rfl rfl rfl ?_
  refine TL.nil ?_
  refine TQ.then_n ?_
  first | refine T.cond_d rfl (fun ht9 => ?_) (fun ht9 => ?_) | refine T.cond _ rfl (fun ht9 => ?_) (fun ht9 => ?_)
  · refine T.skip ?_
    refine TQ.then_n ?_
    refine T.seq ?_
    refine T.block ?_
    refine T.seq ?_
    refine T.region ?_
    refine TL.move hF rfl rfl ?_
    refine TL.move hF rfl rfl ?_
    refine TL.indexAddr hF rfl rfl (hx.adi (i := k) (by simp; omega)) (by omega) (by omega) rfl ?_
    refine TL.load hF rfl (hx.int (i := k) (by omega)) rfl ?_
    refine TL.move hF rfl rfl ?_
    refine TL.bin hF rfl rfl rfl rfl ?_
    refine TL.nil ?_
    refine TQ.then_n ?_
    first | refine T.cond_d rfl (fun ht17 => ?_) (fun ht17 => ?_) | refine T.cond _ rfl (fun ht17 => ?_) (fun ht17 => ?_)
    · refine T.seq ?_
      refine T.region ?_
      refine TL.assign hF rfl rfl ?_
      refine TL.nil ?_
      refine TQ.then_n ?_
      refine T.ret ?_
      refine TQ.block_r ?_
      refine TQ.then_r ?_
      refine TQ.then_r ?_
      refine TQ.block_r ?_
      refine TQ.then_r ?_
      refine TQ.rets [4] _ rfl rfl rfl ?_
      exact ⟨by simp [retVal, show n ∈ xs from ht17 ▸ List.getElem_mem _], rfl⟩
    · refine T.skip ?_
      refine TQ.block_n ?_
      refine TQ.then_n ?_
      refine T.region ?_
      refine TL.move hF rfl rfl ?_
      refine TL.add hF rfl rfl (by omega) (by omega) rfl ?_
      refine TL.assign hF rfl rfl ?_
      refine TL.nil ?_
      refine TQ.round (k + 1) ⟨by omega, not_mem_succ (by omega) hno ht17⟩ (by omega) ⟨rfl, rfl, rfl, trivial⟩ rfl
  · refine T.exit ?_
    refine TQ.then_x ?_
    refine TQ.then_x ?_
    refine TQ.block_x ?_
    refine TQ.then_n ?_
    refine T.seq ?_
    refine T.region ?_
    refine TL.assign hF rfl rfl ?_
    refine TL.nil ?_
    refine TQ.then_n ?_
    refine T.ret ?_
    refine TQ.rets [4] _ rfl rfl rfl ?_
    rw [List.take_of_length_le (by omega)] at hno
    exact ⟨by simp [retVal, hno], rfl⟩
theorem in_fn (n rels : Int) : Rt Try.prog 53 [.int .i64 n, .int .i64 rels].toArray S w0 η (fun v η' => v = .bool (inR n rels) ∧ η' = η) := by
  have hF := open_wide
  refine Rt.of (fn := Try.f53) Try.func53 rfl rfl ?_
  refine T.seq ?_
  refine T.region ?_
  refine TL.assign hF rfl rfl ?_
  refine TL.nil ?_
  refine TQ.then_n ?_
  refine T.seq ?_
  refine T.region ?_
  refine TL.move hF rfl rfl ?_
  refine TL.bin hF rfl rfl rfl rfl ?_
  refine TL.move hF rfl rfl ?_
  refine TL.gd (t := 7) rfl (fun g1_7 => ?_) (fun g1_7 => ?_)
  · refine TL.on rfl rfl rfl (decide_eq_true g1_7) ?_
    refine TL.move hF rfl rfl ?_
    refine TL.on rfl rfl rfl (decide_eq_true g1_7) ?_
    refine TL.move hF rfl rfl ?_
    refine TL.on rfl rfl rfl (decide_eq_true g1_7) ?_
    refine TL.bin hF rfl rfl rfl rfl ?_
    refine TL.pickT hF rfl (decide_eq_true g1_7) rfl rfl ?_
    refine TL.assign hF rfl rfl ?_
    refine TL.nil ?_
    refine TQ.then_n ?_
    refine T.ret ?_
    refine TQ.rets [4] _ rfl rfl rfl ?_
    exact ⟨by simp [retVal, inR, *], rfl⟩
  · refine TL.off hF rfl rfl rfl (decide_eq_false g1_7) rfl ?_
    refine TL.off hF rfl rfl rfl (decide_eq_false g1_7) rfl ?_
    refine TL.off hF rfl rfl rfl (decide_eq_false g1_7) rfl ?_
    refine TL.pickF hF rfl (decide_eq_false g1_7) rfl rfl ?_
    refine TL.assign hF rfl rfl ?_
    refine TL.nil ?_
    refine TQ.then_n ?_
    refine T.ret ?_
    refine TQ.rets [4] _ rfl rfl rfl ?_
    exact ⟨by simp [retVal, inR, *], rfl⟩
theorem Where_fn {a : Option Addr} {xs : List Int} {c : Nat} (n : Int) (hx : Row S w0 η a (ints xs)) (hl : xs.length < 2 ^ 63) :
    Rt Try.prog 22 [.slice a xs.length c, .int .i64 n].toArray S w0 η (fun v η' => v = .int .i64 (whereA n xs 0) ∧ η' = η) := by
  have hF := open_wide
  refine Rt.of (fn := Try.f22) Try.func22 rfl rfl ?_
  refine T.seq ?_
  refine T.region ?_
  refine TL.assign hF rfl rfl ?_
  refine TL.nil ?_
  refine TQ.then_n ?_
  refine T.seq ?_
  refine T.seq ?_
  refine T.region ?_
  refine TL.assign hF rfl rfl ?_
  refine TL.nil ?_
  refine TQ.then_n ?_
  refine T.block ?_
  refine T.loop (ι := Nat) (fun k => k ≤ xs.length ∧ whereA n xs 0 = whereA n (xs.drop k) k) (fun k => [(0, .slice a xs.length c), (1, .int .i64 n), (5, .int .i64 (k : Int))]) (fun _ => η) (fun k => xs.length - k) 0 ⟨Nat.zero_le _, by simp⟩ ⟨rfl, rfl, rfl, trivial⟩ rfl ?_
  rintro k ⟨hk, hno⟩
  refine T.seq ?_
  refine T.seq ?_
  refine T.region ?_
  refine TL.move hF rfl rfl ?_
  refine TL.move hF rfl rfl ?_
  refine TL.len hF rfl rfl ?_
  refine TL.bin hF rfl rfl rfl rfl ?_
  refine TL.nil ?_
  refine TQ.then_n ?_
  first | refine T.cond_d rfl (fun ht9 => ?_) (fun ht9 => ?_) | refine T.cond _ rfl (fun ht9 => ?_) (fun ht9 => ?_)
  · refine T.skip ?_
    refine TQ.then_n ?_
    refine T.seq ?_
    refine T.block ?_
    refine T.seq ?_
    refine T.region ?_
    refine TL.move hF rfl rfl ?_
    refine TL.move hF rfl rfl ?_
    refine TL.indexAddr hF rfl rfl (hx.adi (i := k) (by simp; omega)) (by omega) (by omega) rfl ?_
    refine TL.load hF rfl (hx.int (i := k) (by omega)) rfl ?_
    refine TL.move hF rfl rfl ?_
    refine TL.bin hF rfl rfl rfl rfl ?_
    refine TL.nil ?_
    refine TQ.then_n ?_
    first | refine T.cond_d rfl (fun ht17 => ?_) (fun ht17 => ?_) | refine T.cond _ rfl (fun ht17 => ?_) (fun ht17 => ?_)
    · refine T.seq ?_
      refine T.region ?_
      refine TL.move hF rfl rfl ?_
      refine TL.assign hF rfl rfl ?_
      refine TL.nil ?_
      refine TQ.then_n ?_
      refine T.ret ?_
      refine TQ.block_r ?_
      refine TQ.then_r ?_
      refine TQ.then_r ?_
      refine TQ.block_r ?_
      refine TQ.then_r ?_
      refine TQ.rets [4] _ rfl rfl rfl ?_
      exact ⟨by rw [hno, drop_step (by omega), whereA, if_pos ht17]; rfl, rfl⟩
    · refine T.skip ?_
      refine TQ.block_n ?_
      refine TQ.then_n ?_
      refine T.region ?_
      refine TL.move hF rfl rfl ?_
      refine TL.add hF rfl rfl (by omega) (by omega) rfl ?_
      refine TL.assign hF rfl rfl ?_
      refine TL.nil ?_
      refine TQ.round (k + 1) ⟨by omega, by rw [hno, drop_step (by omega), whereA, if_neg ht17]⟩ (by omega) ⟨rfl, rfl, rfl, trivial⟩ rfl
  · refine T.exit ?_
    refine TQ.then_x ?_
    refine TQ.then_x ?_
    refine TQ.block_x ?_
    refine TQ.then_n ?_
    refine T.seq ?_
    refine T.region ?_
    refine TL.assign hF rfl rfl ?_
    refine TL.nil ?_
    refine TQ.then_n ?_
    refine T.ret ?_
    refine TQ.rets [4] _ rfl rfl rfl ?_
    exact ⟨by rw [hno, List.drop_of_length_le (by omega)]; rfl, rfl⟩
theorem Equal_fn {a b : Option Addr} {xs ys : List Int} {ca cb : Nat} (hx : Row S w0 η a (ints xs)) (hy : Row S w0 η b (ints ys)) (hl : xs.length < 2 ^ 63) :
    Rt Try.prog 19 [.slice a xs.length ca, .slice b ys.length cb].toArray S w0 η (fun v η' => v = .bool (decide (xs = ys)) ∧ η' = η) := by
  have hF := open_wide
  refine Rt.of (fn := Try.f19) Try.func19 rfl rfl ?_
  refine T.seq ?_
  refine T.region ?_
  refine TL.assign hF rfl rfl ?_
  refine TL.nil ?_
  refine TQ.then_n ?_
  refine T.seq ?_
  refine T.region ?_
  refine TL.move hF rfl rfl ?_
  refine TL.len hF rfl rfl ?_
  refine TL.move hF rfl rfl ?_
  refine TL.len hF rfl rfl ?_
  refine TL.bin hF rfl rfl rfl rfl ?_
  refine TL.assign hF rfl rfl ?_
  refine TL.nil ?_
  refine TQ.then_n ?_
  refine T.seq ?_
  refine T.seq ?_
  refine T.region ?_
  refine TL.assign hF rfl rfl ?_
  refine TL.nil ?_
  refine TQ.then_n ?_
  refine T.block ?_
  refine T.loop (ι := Nat × Bool) (fun i => i.1 ≤ xs.length ∧ (i.2 = true → xs.length = ys.length ∧ xs.take i.1 = ys.take i.1) ∧ (i.2 = false → xs ≠ ys)) (fun i => [(0, .slice a xs.length ca), (1, .slice b ys.length cb), (5, .bool i.2), (6, .int .i64 (i.1 : Int))]) (fun _ => η) (fun i => xs.length - i.1) (0, decide ((xs.length : Int) = ys.length)) ⟨Nat.zero_le _, fun h => ⟨by simpa [Int.ofNat_inj] using h, by simp⟩, fun h e => by subst e; simp at h⟩ ⟨rfl, rfl, rfl, rfl, trivial⟩ rfl ?_
  rintro ⟨k, s⟩ ⟨hk, hs1, hs2⟩
  simp only at hk hs1 hs2
  refine T.seq ?_
  refine T.seq ?_
  refine T.region ?_
  refine TL.move hF rfl rfl ?_
  refine TL.move hF rfl rfl ?_
  refine TL.gb (t := 13) rfl (fun g3_13 => ?_) (fun g3_13 => ?_)
  · refine TL.on rfl rfl rfl g3_13 ?_
    refine TL.move hF rfl rfl ?_
    refine TL.on rfl rfl rfl g3_13 ?_
    refine TL.move hF rfl rfl ?_
    refine TL.on rfl rfl rfl g3_13 ?_
    refine TL.len hF rfl rfl ?_
    refine TL.on rfl rfl rfl g3_13 ?_
    refine TL.bin hF rfl rfl rfl rfl ?_
    refine TL.pickT hF rfl g3_13 rfl rfl ?_
    refine TL.nil ?_
    refine TQ.then_n ?_
    first | refine T.cond_d rfl (fun ht18 => ?_) (fun ht18 => ?_) | refine T.cond _ rfl (fun ht18 => ?_) (fun ht18 => ?_)
    · refine T.skip ?_
      refine TQ.then_n ?_
      refine T.seq ?_
      refine T.block ?_
      refine T.draw ?_
      refine DR.stepV [_] rfl [(0, _, none)] rfl rfl ⟨⟨rfl, by kernel_rfl⟩, trivial⟩ (fun ext => TL.move hF rfl rfl TL.fin) ?_
      refine DR.stepV [_, _] rfl [(6, _, none)] rfl rfl ⟨⟨rfl, by kernel_rfl⟩, trivial⟩ (fun ext => TL.move hF rfl rfl TL.fin) ?_
      refine DR.stepV [_, _, _] rfl [(21, _, some 0), (22, _, some 1)] rfl rfl ⟨⟨rfl, rfl, rfl⟩, ⟨rfl, rfl, rfl⟩, trivial⟩ (fun ext => TL.indexAddr hF rfl rfl (hx.adi (i := k) (by simp; omega)) (by omega) (by omega) rfl TL.fin) ?_
      refine DR.stepV [_, _, _, _] rfl [(23, _, some 2)] rfl rfl ⟨⟨rfl, rfl, rfl⟩, trivial⟩ (fun ext => TL.load hF rfl (hx.int (i := k) (by omega)) rfl TL.fin) ?_
      refine DR.stepV [_, _, _, _, _] rfl [(1, _, none)] rfl rfl ⟨⟨rfl, by kernel_rfl⟩, trivial⟩ (fun ext => TL.move hF rfl rfl TL.fin) ?_
      refine DR.stepV [_, _, _, _, _, _] rfl [(6, _, none)] rfl rfl ⟨⟨rfl, by kernel_rfl⟩, trivial⟩ (fun ext => TL.move hF rfl rfl TL.fin) ?_
      refine DR.stepV [_, _, _, _, _, _, _] rfl [(25, _, some 4), (26, _, some 5)] rfl rfl ⟨⟨rfl, rfl, rfl⟩, ⟨rfl, rfl, rfl⟩, trivial⟩ (fun ext => TL.indexAddr hF rfl rfl (hy.adi (i := k) (by simp; have := (hs1 g3_13).1; omega)) (by omega) (by have := (hs1 g3_13).1; omega) rfl TL.fin) ?_
      refine DR.stepV [_, _, _, _, _, _, _, _] rfl [(27, _, some 6)] rfl rfl ⟨⟨rfl, rfl, rfl⟩, trivial⟩ (fun ext => TL.load hF rfl (hy.int (i := k) (by have := (hs1 g3_13).1; omega)) rfl TL.fin) ?_
      refine DR.done [(28, _), (27, _), (26, _), (25, _), (24, _), (23, _), (22, _), (21, _)] [_, _] mixed (by kernel_rfl) (by kernel_rfl) (by kernel_rfl) rfl rfl ?_
      refine TL.bin hF rfl rfl rfl rfl ?_
      refine TL.assign hF rfl rfl ?_
      refine TL.nil ?_
      refine TQ.block_n ?_
      refine TQ.then_n ?_
      refine T.region ?_
      refine TL.move hF rfl rfl ?_
      refine TL.add hF rfl rfl (by omega) (by omega) rfl ?_
      refine TL.assign hF rfl rfl ?_
      refine TL.nil ?_
      refine TQ.round (k + 1, decide (xs[k]'(by omega) = ys[k]'(by have := (hs1 g3_13).1; omega))) ⟨by simp only; omega, fun h => ⟨(hs1 g3_13).1, take_succ_eq _ _ (hs1 g3_13).2 (of_decide_eq_true h)⟩, fun h => ne_of_getElem _ _ (of_decide_eq_false h)⟩ (by simp only; omega) ⟨rfl, rfl, rfl, rfl, trivial⟩ rfl
    · refine T.exit ?_
      refine TQ.then_x ?_
      refine TQ.then_x ?_
      refine TQ.block_x ?_
      refine TQ.then_n ?_
      refine T.seq ?_
      refine T.region ?_
      refine TL.move hF rfl rfl ?_
      refine TL.assign hF rfl rfl ?_
      refine TL.nil ?_
      refine TQ.then_n ?_
      refine T.ret ?_
      refine TQ.rets [4] _ rfl rfl rfl ?_
      subst g3_13
      have h1 := hs1 rfl
      have h2 : xs = ys := by have := h1.2; rwa [List.take_of_length_le (by omega), List.take_of_length_le (by omega)] at this
      exact ⟨by simp [retVal, h2], rfl⟩
  · refine TL.off hF rfl rfl rfl g3_13 rfl ?_
    refine TL.off hF rfl rfl rfl g3_13 rfl ?_
    refine TL.off hF rfl rfl rfl g3_13 rfl ?_
    refine TL.off hF rfl rfl rfl g3_13 rfl ?_
    refine TL.pickF hF rfl g3_13 rfl rfl ?_
    refine TL.nil ?_
    refine TQ.then_n ?_
    refine T.cond_f rfl rfl ?_
    refine T.exit ?_
    refine TQ.then_x ?_
    refine TQ.then_x ?_
    refine TQ.block_x ?_
    refine TQ.then_n ?_
    refine T.seq ?_
    refine T.region ?_
    refine TL.move hF rfl rfl ?_
    refine TL.assign hF rfl rfl ?_
    refine TL.nil ?_
    refine TQ.then_n ?_
    refine T.ret ?_
    refine TQ.rets [4] _ rfl rfl rfl ?_
    subst g3_13
    exact ⟨by simp [retVal, hs2 rfl], rfl⟩
theorem less_fn {a b : Option Addr} {xs ys : List Int} {ca cb : Nat} (hx : Row S w0 η a (ints xs)) (hy : Row S w0 η b (ints ys)) (hl : xs.length < 2 ^ 63) :
    Rt Try.prog 42 [.slice a xs.length ca, .slice b ys.length cb].toArray S w0 η (fun v η' => v = .bool (less xs ys) ∧ η' = η) := by
  have hF := open_wide
  refine Rt.of (fn := Try.f42) Try.func42 rfl rfl ?_
  refine T.seq ?_
  refine T.region ?_
  refine TL.assign hF rfl rfl ?_
  refine TL.nil ?_
  refine TQ.then_n ?_
  refine T.seq ?_
  refine T.seq ?_
  refine T.region ?_
  refine TL.move hF rfl rfl ?_
  refine TL.len hF rfl rfl ?_
  refine TL.move hF rfl rfl ?_
  refine TL.len hF rfl rfl ?_
  refine TL.bin hF rfl rfl rfl rfl ?_
  refine TL.nil ?_
  refine TQ.then_n ?_
  first | refine T.cond_d rfl (fun ht10 => ?_) (fun ht10 => ?_) | refine T.cond _ rfl (fun ht10 => ?_) (fun ht10 => ?_)
  · refine T.seq ?_
    refine T.region ?_
    refine TL.move hF rfl rfl ?_
    refine TL.len hF rfl rfl ?_
    refine TL.move hF rfl rfl ?_
    refine TL.len hF rfl rfl ?_
    refine TL.bin hF rfl rfl rfl rfl ?_
    refine TL.assign hF rfl rfl ?_
    refine TL.nil ?_
    refine TQ.then_n ?_
    refine T.ret ?_
    refine TQ.then_r ?_
    refine TQ.rets [4] _ rfl rfl rfl ?_
    exact ⟨by simp [retVal, less]; omega, rfl⟩
  · refine T.skip ?_
    refine TQ.then_n ?_
    refine T.seq ?_
    refine T.seq ?_
    refine T.region ?_
    refine TL.assign hF rfl rfl ?_
    refine TL.nil ?_
    refine TQ.then_n ?_
    refine T.block ?_
    have hlen : xs.length = ys.length := by omega
    refine T.loop (ι := Nat) (fun k => k ≤ xs.length ∧ less xs ys = lessA (xs.drop k) (ys.drop k)) (fun k => [(0, .slice a xs.length ca), (1, .slice b ys.length cb), (5, .int .i64 (k : Int))]) (fun _ => η) (fun k => xs.length - k) 0 ⟨Nat.zero_le _, by simp [less, hlen]⟩ ⟨rfl, rfl, rfl, trivial⟩ rfl ?_
    rintro k ⟨hk, hs⟩
    refine T.seq ?_
    refine T.seq ?_
    refine T.region ?_
    refine TL.move hF rfl rfl ?_
    refine TL.move hF rfl rfl ?_
    refine TL.len hF rfl rfl ?_
    refine TL.bin hF rfl rfl rfl rfl ?_
    refine TL.nil ?_
    refine TQ.then_n ?_
    first | refine T.cond_d rfl (fun ht19 => ?_) (fun ht19 => ?_) | refine T.cond _ rfl (fun ht19 => ?_) (fun ht19 => ?_)
    · refine T.skip ?_
      refine TQ.then_n ?_
      refine T.seq ?_
      refine T.block ?_
      refine T.seq ?_
      refine T.draw ?_
      refine DR.stepV [_] rfl [(0, _, none)] rfl rfl ⟨⟨rfl, by kernel_rfl⟩, trivial⟩ (fun ext => TL.move hF rfl rfl TL.fin) ?_
      refine DR.stepV [_, _] rfl [(5, _, none)] rfl rfl ⟨⟨rfl, by kernel_rfl⟩, trivial⟩ (fun ext => TL.move hF rfl rfl TL.fin) ?_
      refine DR.stepV [_, _, _] rfl [(22, _, some 0), (23, _, some 1)] rfl rfl ⟨⟨rfl, rfl, rfl⟩, ⟨rfl, rfl, rfl⟩, trivial⟩ (fun ext => TL.indexAddr hF rfl rfl (hx.adi (i := k) (by simp; omega)) (by omega) (by omega) rfl TL.fin) ?_
      refine DR.stepV [_, _, _, _] rfl [(24, _, some 2)] rfl rfl ⟨⟨rfl, rfl, rfl⟩, trivial⟩ (fun ext => TL.load hF rfl (hx.int (i := k) (by omega)) rfl TL.fin) ?_
      refine DR.stepV [_, _, _, _, _] rfl [(1, _, none)] rfl rfl ⟨⟨rfl, by kernel_rfl⟩, trivial⟩ (fun ext => TL.move hF rfl rfl TL.fin) ?_
      refine DR.stepV [_, _, _, _, _, _] rfl [(5, _, none)] rfl rfl ⟨⟨rfl, by kernel_rfl⟩, trivial⟩ (fun ext => TL.move hF rfl rfl TL.fin) ?_
      refine DR.stepV [_, _, _, _, _, _, _] rfl [(26, _, some 4), (27, _, some 5)] rfl rfl ⟨⟨rfl, rfl, rfl⟩, ⟨rfl, rfl, rfl⟩, trivial⟩ (fun ext => TL.indexAddr hF rfl rfl (hy.adi (i := k) (by simp; omega)) (by omega) (by omega) rfl TL.fin) ?_
      refine DR.stepV [_, _, _, _, _, _, _, _] rfl [(28, _, some 6)] rfl rfl ⟨⟨rfl, rfl, rfl⟩, trivial⟩ (fun ext => TL.load hF rfl (hy.int (i := k) (by omega)) rfl TL.fin) ?_
      refine DR.done [(29, _), (28, _), (27, _), (26, _), (25, _), (24, _), (23, _), (22, _)] [_] mixed (by kernel_rfl) (by kernel_rfl) (by kernel_rfl) rfl rfl ?_
      refine TL.bin hF rfl rfl rfl rfl ?_
      refine TL.nil ?_
      refine TQ.then_n ?_
      first | refine T.cond_d rfl (fun ht30 => ?_) (fun ht30 => ?_) | refine T.cond _ rfl (fun ht30 => ?_) (fun ht30 => ?_)
      · refine T.seq ?_
        refine T.draw ?_
        refine DR.stepV [_] rfl [(0, _, none)] rfl rfl ⟨⟨rfl, by kernel_rfl⟩, trivial⟩ (fun ext => TL.move hF rfl rfl TL.fin) ?_
        refine DR.stepV [_, _] rfl [(5, _, none)] rfl rfl ⟨⟨rfl, by kernel_rfl⟩, trivial⟩ (fun ext => TL.move hF rfl rfl TL.fin) ?_
        refine DR.stepV [_, _, _] rfl [(31, _, some 0), (32, _, some 1)] rfl rfl ⟨⟨rfl, rfl, rfl⟩, ⟨rfl, rfl, rfl⟩, trivial⟩ (fun ext => TL.indexAddr hF rfl rfl (hx.adi (i := k) (by simp; omega)) (by omega) (by omega) rfl TL.fin) ?_
        refine DR.stepV [_, _, _, _] rfl [(33, _, some 2)] rfl rfl ⟨⟨rfl, rfl, rfl⟩, trivial⟩ (fun ext => TL.load hF rfl (hx.int (i := k) (by omega)) rfl TL.fin) ?_
        refine DR.stepV [_, _, _, _, _] rfl [(1, _, none)] rfl rfl ⟨⟨rfl, by kernel_rfl⟩, trivial⟩ (fun ext => TL.move hF rfl rfl TL.fin) ?_
        refine DR.stepV [_, _, _, _, _, _] rfl [(5, _, none)] rfl rfl ⟨⟨rfl, by kernel_rfl⟩, trivial⟩ (fun ext => TL.move hF rfl rfl TL.fin) ?_
        refine DR.stepV [_, _, _, _, _, _, _] rfl [(35, _, some 4), (36, _, some 5)] rfl rfl ⟨⟨rfl, rfl, rfl⟩, ⟨rfl, rfl, rfl⟩, trivial⟩ (fun ext => TL.indexAddr hF rfl rfl (hy.adi (i := k) (by simp; omega)) (by omega) (by omega) rfl TL.fin) ?_
        refine DR.stepV [_, _, _, _, _, _, _, _] rfl [(37, _, some 6)] rfl rfl ⟨⟨rfl, rfl, rfl⟩, trivial⟩ (fun ext => TL.load hF rfl (hy.int (i := k) (by omega)) rfl TL.fin) ?_
        refine DR.done [(38, _), (37, _), (36, _), (35, _), (34, _), (33, _), (32, _), (31, _)] [_, _] mixed (by kernel_rfl) (by kernel_rfl) (by kernel_rfl) rfl rfl ?_
        refine TL.bin hF rfl rfl rfl rfl ?_
        refine TL.assign hF rfl rfl ?_
        refine TL.nil ?_
        refine TQ.then_n ?_
        refine T.ret ?_
        refine TQ.block_r ?_
        refine TQ.then_r ?_
        refine TQ.then_r ?_
        refine TQ.block_r ?_
        refine TQ.then_r ?_
        refine TQ.rets [4] _ rfl rfl rfl ?_
        exact ⟨by rw [hs, drop_step (by omega), drop_step (l := ys) (by omega), lessA, if_pos ht30]; rfl, rfl⟩
      · refine T.skip ?_
        refine TQ.block_n ?_
        refine TQ.then_n ?_
        refine T.region ?_
        refine TL.move hF rfl rfl ?_
        refine TL.add hF rfl rfl (by omega) (by omega) rfl ?_
        refine TL.assign hF rfl rfl ?_
        refine TL.nil ?_
        refine TQ.round (k + 1) ⟨by omega, by rw [hs, drop_step (by omega), drop_step (l := ys) (by omega), lessA, if_neg ht30]⟩ (by omega) ⟨rfl, rfl, rfl, trivial⟩ rfl
    · refine T.exit ?_
      refine TQ.then_x ?_
      refine TQ.then_x ?_
      refine TQ.block_x ?_
      refine TQ.then_n ?_
      refine T.seq ?_
      refine T.region ?_
      refine TL.assign hF rfl rfl ?_
      refine TL.nil ?_
      refine TQ.then_n ?_
      refine T.ret ?_
      refine TQ.rets [4] _ rfl rfl rfl ?_
      exact ⟨by rw [hs, List.drop_of_length_le (by omega)]; rfl, rfl⟩
end Go.Proofs.Ytdehpaikapbckaa
/- Lists of lists; the reference's check, and its uses. -/
namespace Go.Proofs.Ytdehpaikapbckaa
open Go.Sl
variable {S : Nat → Prop} {w0 : World} {η : Heap}
theorem Lists.item {a : Option Addr} {ls : List (List Int)} (h : Lists S w0 η a ls) : ∃ f : Nat → Option Addr × Nat, (∀ i (hi : i < ls.length), At S w0 η (sAt a (i * 1)) (.slice (f i).1 ls[i].length (f i).2) ∧ Row S w0 η (f i).1 (ints ls[i])) ∧ (∀ i, i < ls.length → ∃ ad, a = some ad ∧ ad.spot = none) := by
  obtain ⟨ps, hl, hr, hi⟩ := h
  refine ⟨fun i => ps.getD i (none, 0), fun i h1 => ?_, fun i h1 => hr.adi (i := i) (by simp; omega)⟩
  have h2 : i < ps.length := by omega
  refine ⟨?_, ?_⟩
  · rw [Nat.mul_one]; exact hr.cell i _ (by simp [List.getElem?_zipWith, List.getD_eq_getElem?_getD, h1, h2])
  · have := hi i h2 h1; simpa [List.getD_eq_getElem?_getD, h2] using this
theorem Lists.len {a : Option Addr} {ls : List (List Int)} (_h : Lists S w0 η a ls) : True := trivial

set_option maxHeartbeats 2000000 in
theorem EqualLists_fn {a b : Option Addr} {xs ys : List (List Int)} {ca cb : Nat} (hx : Lists S w0 η a xs) (hy : Lists S w0 η b ys) (hl : xs.length < 2 ^ 63) (hlx : ∀ l ∈ xs, l.length < 2 ^ 63) :
    Rt Try.prog 18 [.slice a xs.length ca, .slice b ys.length cb].toArray S w0 η (fun v η' => v = .bool (decide (xs = ys)) ∧ η' = η) := by
  have hF := open_wide
  refine Rt.of (fn := Try.f18) Try.func18 rfl rfl ?_
  refine T.seq ?_
  refine T.region ?_
  refine TL.assign hF rfl rfl ?_
  refine TL.nil ?_
  refine TQ.then_n ?_
  refine T.seq ?_
  refine T.region ?_
  refine TL.move hF rfl rfl ?_
  refine TL.len hF rfl rfl ?_
  refine TL.move hF rfl rfl ?_
  refine TL.len hF rfl rfl ?_
  refine TL.bin hF rfl rfl rfl rfl ?_
  refine TL.assign hF rfl rfl ?_
  refine TL.nil ?_
  refine TQ.then_n ?_
  refine T.seq ?_
  refine T.seq ?_
  refine T.region ?_
  refine TL.assign hF rfl rfl ?_
  refine TL.nil ?_
  refine TQ.then_n ?_
  refine T.block ?_
  obtain ⟨fx, hx1, hx2⟩ := hx.item
  obtain ⟨fy, hy1, hy2⟩ := hy.item
  refine T.loop (ι := Nat × Bool) (fun i => i.1 ≤ xs.length ∧ (i.2 = true → xs.length = ys.length ∧ xs.take i.1 = ys.take i.1) ∧ (i.2 = false → xs ≠ ys)) (fun i => [(0, .slice a xs.length ca), (1, .slice b ys.length cb), (5, .bool i.2), (6, .int .i64 (i.1 : Int))]) (fun _ => η) (fun i => xs.length - i.1) (0, decide ((xs.length : Int) = ys.length)) ⟨Nat.zero_le _, fun h => ⟨by simpa [Int.ofNat_inj] using h, by simp⟩, fun h e => by subst e; simp at h⟩ ⟨rfl, rfl, rfl, rfl, trivial⟩ rfl ?_
  rintro ⟨k, s⟩ ⟨hk, hs1, hs2⟩
  simp only at hk hs1 hs2
  refine T.seq ?_
  refine T.seq ?_
  refine T.region ?_
  refine TL.move hF rfl rfl ?_
  refine TL.move hF rfl rfl ?_
  refine TL.gb (t := 13) rfl (fun g3_13 => ?_) (fun g3_13 => ?_)
  · refine TL.on rfl rfl rfl g3_13 ?_
    refine TL.move hF rfl rfl ?_
    refine TL.on rfl rfl rfl g3_13 ?_
    refine TL.move hF rfl rfl ?_
    refine TL.on rfl rfl rfl g3_13 ?_
    refine TL.len hF rfl rfl ?_
    refine TL.on rfl rfl rfl g3_13 ?_
    refine TL.bin hF rfl rfl rfl rfl ?_
    refine TL.pickT hF rfl g3_13 rfl rfl ?_
    refine TL.nil ?_
    refine TQ.then_n ?_
    first | refine T.cond_d rfl (fun ht18 => ?_) (fun ht18 => ?_) | refine T.cond _ rfl (fun ht18 => ?_) (fun ht18 => ?_)
    · refine T.skip ?_
      refine TQ.then_n ?_
      refine T.seq ?_
      refine T.block ?_
      refine T.draw ?_
      refine DR.stepV [_] rfl [(0, _, none)] rfl rfl ⟨⟨rfl, by kernel_rfl⟩, trivial⟩ (fun ext => TL.move hF rfl rfl TL.fin) ?_
      refine DR.stepV [_, _] rfl [(6, _, none)] rfl rfl ⟨⟨rfl, by kernel_rfl⟩, trivial⟩ (fun ext => TL.move hF rfl rfl TL.fin) ?_
      refine DR.stepV [_, _, _] rfl [(21, _, some 0), (22, _, some 1)] rfl rfl ⟨⟨rfl, rfl, rfl⟩, ⟨rfl, rfl, rfl⟩, trivial⟩ (fun ext => TL.indexAddr hF rfl rfl (hx2 k (by omega)) (by omega) (by omega) rfl TL.fin) ?_
      refine DR.stepV [_, _, _, _] rfl [(23, _, some 2)] rfl rfl ⟨⟨rfl, rfl, rfl⟩, trivial⟩ (fun ext => TL.load hF rfl (hx1 k (by omega)).1 rfl TL.fin) ?_
      refine DR.stepV [_, _, _, _, _] rfl [(1, _, none)] rfl rfl ⟨⟨rfl, by kernel_rfl⟩, trivial⟩ (fun ext => TL.move hF rfl rfl TL.fin) ?_
      refine DR.stepV [_, _, _, _, _, _] rfl [(6, _, none)] rfl rfl ⟨⟨rfl, by kernel_rfl⟩, trivial⟩ (fun ext => TL.move hF rfl rfl TL.fin) ?_
      refine DR.stepV [_, _, _, _, _, _, _] rfl [(25, _, some 4), (26, _, some 5)] rfl rfl ⟨⟨rfl, rfl, rfl⟩, ⟨rfl, rfl, rfl⟩, trivial⟩ (fun ext => TL.indexAddr hF rfl rfl (hy2 k (by have := (hs1 g3_13).1; omega)) (by omega) (by have := (hs1 g3_13).1; omega) rfl TL.fin) ?_
      refine DR.stepV [_, _, _, _, _, _, _, _] rfl [(27, _, some 6)] rfl rfl ⟨⟨rfl, rfl, rfl⟩, trivial⟩ (fun ext => TL.load hF rfl (hy1 k (by have := (hs1 g3_13).1; omega)).1 rfl TL.fin) ?_
      refine DR.done [(28, _), (27, _), (26, _), (25, _), (24, _), (23, _), (22, _), (21, _)] [_, _] mixed (by kernel_rfl) (by kernel_rfl) (by kernel_rfl) rfl rfl ?_
      refine TL.callV hF (Equal_fn (hx1 k (by omega)).2 (hy1 k (by have := (hs1 g3_13).1; omega)).2 (hlx _ (List.getElem_mem _))) rfl rfl ?_
      refine TL.assign hF rfl rfl ?_
      refine TL.nil ?_
      refine TQ.block_n ?_
      refine TQ.then_n ?_
      refine T.region ?_
      refine TL.move hF rfl rfl ?_
      refine TL.add hF rfl rfl (by omega) (by omega) rfl ?_
      refine TL.assign hF rfl rfl ?_
      refine TL.nil ?_
      refine TQ.round (k + 1, decide (xs[k]'(by omega) = ys[k]'(by have := (hs1 g3_13).1; omega))) ⟨by simp only; omega, fun h => ⟨(hs1 g3_13).1, take_succ_eq _ _ (hs1 g3_13).2 (of_decide_eq_true h)⟩, fun h => ne_of_getElem _ _ (of_decide_eq_false h)⟩ (by simp only; omega) ⟨rfl, rfl, rfl, rfl, trivial⟩ rfl
    · refine T.exit ?_
      refine TQ.then_x ?_
      refine TQ.then_x ?_
      refine TQ.block_x ?_
      refine TQ.then_n ?_
      refine T.seq ?_
      refine T.region ?_
      refine TL.move hF rfl rfl ?_
      refine TL.assign hF rfl rfl ?_
      refine TL.nil ?_
      refine TQ.then_n ?_
      refine T.ret ?_
      refine TQ.rets [4] _ rfl rfl rfl ?_
      subst g3_13
      have h1 := hs1 rfl
      have h2 : xs = ys := by have := h1.2; rwa [List.take_of_length_le (by omega), List.take_of_length_le (by omega)] at this
      exact ⟨by simp [retVal, h2], rfl⟩
  · refine TL.off hF rfl rfl rfl g3_13 rfl ?_
    refine TL.off hF rfl rfl rfl g3_13 rfl ?_
    refine TL.off hF rfl rfl rfl g3_13 rfl ?_
    refine TL.off hF rfl rfl rfl g3_13 rfl ?_
    refine TL.pickF hF rfl g3_13 rfl rfl ?_
    refine TL.nil ?_
    refine TQ.then_n ?_
    refine T.cond_f rfl rfl ?_
    refine T.exit ?_
    refine TQ.then_x ?_
    refine TQ.then_x ?_
    refine TQ.block_x ?_
    refine TQ.then_n ?_
    refine T.seq ?_
    refine T.region ?_
    refine TL.move hF rfl rfl ?_
    refine TL.assign hF rfl rfl ?_
    refine TL.nil ?_
    refine TQ.then_n ?_
    refine T.ret ?_
    refine TQ.rets [4] _ rfl rfl rfl ?_
    subst g3_13
    exact ⟨by simp [retVal, hs2 rfl], rfl⟩
set_option maxHeartbeats 2000000 in
theorem Check_fn {a : Option Addr} {rs : List RuleD} {c : Nat} (rels : Int) (hr : Rules S w0 η a rs) (hl : rs.length < 2 ^ 63) :
    Rt Try.prog 29 [.int .i64 rels, .slice a rs.length c].toArray S w0 η (fun v η' => v = .int .i64 (check rels rs) ∧ η' = η) := by
  have hF := open_wide
  refine Rt.of (fn := Try.f29) Try.func29 rfl rfl ?_
  refine T.seq ?_
  refine T.region ?_
  refine TL.assign hF rfl rfl ?_
  refine TL.nil ?_
  refine TQ.then_n ?_
  refine T.seq ?_
  refine T.seq ?_
  refine T.region ?_
  refine TL.move hF rfl rfl ?_
  refine TL.bin hF rfl rfl rfl rfl ?_
  refine TL.move hF rfl rfl ?_
  refine TL.gd (t := 10) rfl (fun g1_10 => ?_) (fun g1_10 => ?_)
  · refine TL.off hF rfl rfl rfl (decide_eq_true g1_10) rfl ?_
    refine TL.off hF rfl rfl rfl (decide_eq_true g1_10) rfl ?_
    refine TL.pickT hF rfl (decide_eq_true g1_10) rfl rfl ?_
    refine TL.nil ?_
    refine TQ.then_n ?_
    refine T.cond_t rfl rfl ?_
    refine T.seq ?_
    refine T.region ?_
    refine TL.assign hF rfl rfl ?_
    refine TL.nil ?_
    refine TQ.then_n ?_
    refine T.ret ?_
    refine TQ.then_r ?_
    refine TQ.rets [4] _ rfl rfl rfl ?_
    exact ⟨by simp [retVal, check, g1_10], rfl⟩
  · refine TL.on rfl rfl rfl (decide_eq_false g1_10) ?_
    refine TL.move hF rfl rfl ?_
    refine TL.on rfl rfl rfl (decide_eq_false g1_10) ?_
    refine TL.bin hF rfl rfl rfl rfl ?_
    refine TL.pickF hF rfl (decide_eq_false g1_10) rfl rfl ?_
    refine TL.nil ?_
    refine TQ.then_n ?_
    first | refine T.cond_d rfl (fun ht13 => ?_) (fun ht13 => ?_) | refine T.cond _ rfl (fun ht13 => ?_) (fun ht13 => ?_)
    · refine T.seq ?_
      refine T.region ?_
      refine TL.assign hF rfl rfl ?_
      refine TL.nil ?_
      refine TQ.then_n ?_
      refine T.ret ?_
      refine TQ.then_r ?_
      refine TQ.rets [4] _ rfl rfl rfl ?_
      exact ⟨by simp [retVal, check, g1_10, ht13], rfl⟩
    · refine T.skip ?_
      refine TQ.then_n ?_
      refine T.seq ?_
      refine T.seq ?_
      refine T.region ?_
      refine TL.move hF rfl rfl ?_
      refine TL.len hF rfl rfl ?_
      refine TL.bin hF rfl rfl rfl rfl ?_
      refine TL.nil ?_
      refine TQ.then_n ?_
      first | refine T.cond_d rfl (fun ht16 => ?_) (fun ht16 => ?_) | refine T.cond _ rfl (fun ht16 => ?_) (fun ht16 => ?_)
      · refine T.seq ?_
        refine T.region ?_
        refine TL.assign hF rfl rfl ?_
        refine TL.nil ?_
        refine TQ.then_n ?_
        refine T.ret ?_
        refine TQ.then_r ?_
        refine TQ.rets [4] _ rfl rfl rfl ?_
        exact ⟨by simp [retVal, check, g1_10, ht13, show 60 < rs.length by omega], rfl⟩
      · refine T.skip ?_
        refine TQ.then_n ?_
        refine T.seq ?_
        refine T.seq ?_
        refine T.region ?_
        refine TL.assign hF rfl rfl ?_
        refine TL.nil ?_
        refine TQ.then_n ?_
        refine T.block ?_
        have ht16' : ¬ 60 < rs.length := by omega
        refine T.loop (ι := Nat) (fun k => k ≤ rs.length ∧ check rels rs = errs rels (rs.drop k)) (fun k => [(0, .int .i64 rels), (1, .slice a rs.length c), (5, .int .i64 (k : Int))]) (fun _ => η) (fun k => rs.length - k) 0 ⟨Nat.zero_le _, by simp [check, g1_10, ht13, ht16']⟩ ⟨rfl, rfl, rfl, trivial⟩ rfl ?_
        rintro k ⟨hk, hs⟩
        refine T.seq ?_
        refine T.seq ?_
        refine T.region ?_
        refine TL.move hF rfl rfl ?_
        refine TL.move hF rfl rfl ?_
        refine TL.len hF rfl rfl ?_
        refine TL.bin hF rfl rfl rfl rfl ?_
        refine TL.nil ?_
        refine TQ.then_n ?_
        first | refine T.cond_d rfl (fun ht20 => ?_) (fun ht20 => ?_) | refine T.cond _ rfl (fun ht20 => ?_) (fun ht20 => ?_)
        · refine T.skip ?_
          refine TQ.then_n ?_
          refine T.seq ?_
          refine T.block ?_
          refine T.seq ?_
          refine T.region ?_
          refine TL.move hF rfl rfl ?_
          refine TL.move hF rfl rfl ?_
          refine TL.indexAddr hF rfl rfl (hr.ad (by omega)) (by omega) (by omega) rfl ?_
          refine TL.fieldAddr hF rfl rfl ?_
          refine TL.fieldAddr hF rfl rfl ?_
          refine TL.load hF rfl (hr.at (i := k) (by omega) 2 rfl) rfl ?_
          refine TL.assign hF rfl rfl ?_
          refine TL.nil ?_
          refine TQ.then_n ?_
          refine T.seq ?_
          refine T.seq ?_
          refine T.region ?_
          refine TL.move hF rfl rfl ?_
          refine TL.len hF rfl rfl ?_
          refine TL.bin hF rfl rfl rfl rfl ?_
          refine TL.nil ?_
          refine TQ.then_n ?_
          first | refine T.cond_d rfl (fun ht31 => ?_) (fun ht31 => ?_) | refine T.cond _ rfl (fun ht31 => ?_) (fun ht31 => ?_)
          · refine T.seq ?_
            refine T.region ?_
            refine TL.assign hF rfl rfl ?_
            refine TL.nil ?_
            refine TQ.then_n ?_
            refine T.ret ?_
            refine TQ.then_r ?_
            refine TQ.block_r ?_
            refine TQ.then_r ?_
            refine TQ.then_r ?_
            refine TQ.block_r ?_
            refine TQ.then_r ?_
            refine TQ.rets [4] _ rfl rfl rfl ?_
            exact ⟨by rw [hs, drop_step (by omega), errs]; simp [retVal, checkR, show 6 < (rs[k]'(by omega)).body.length by omega], rfl⟩
          · refine T.skip ?_
            refine TQ.then_n ?_
            refine T.seq ?_
            refine T.seq ?_
            refine T.region ?_
            refine TL.move hF rfl rfl ?_
            refine TL.move hF rfl rfl ?_
            refine TL.indexAddr hF rfl rfl (hr.ad (by omega)) (by omega) (by omega) rfl ?_
            refine TL.fieldAddr hF rfl rfl ?_
            refine TL.load hF rfl (hr.at (i := k) (by omega) 0 rfl) rfl ?_
            refine TL.move hF rfl rfl ?_
            refine TL.callV hF (in_fn _ _) rfl rfl ?_
            refine TL.not hF rfl rfl ?_
            refine TL.nil ?_
            refine TQ.then_n ?_
            refine T.cond _ rfl (fun ht39 => ?_) (fun ht39 => ?_)
            · refine T.seq ?_
              refine T.region ?_
              refine TL.assign hF rfl rfl ?_
              refine TL.nil ?_
              refine TQ.then_n ?_
              refine T.ret ?_
              refine TQ.then_r ?_
              refine TQ.block_r ?_
              refine TQ.then_r ?_
              refine TQ.then_r ?_
              refine TQ.block_r ?_
              refine TQ.then_r ?_
              refine TQ.rets [4] _ rfl rfl rfl ?_
              simp at ht39
              exact ⟨by rw [hs, drop_step (by omega), errs]; simp [retVal, checkR, show ¬ 6 < (rs[k]'(by omega)).body.length by omega, ht39], rfl⟩
            · refine T.skip ?_
              refine TQ.then_n ?_
              refine T.seq ?_
              refine T.region ?_
              refine TL.assign hF rfl rfl ?_
              refine TL.nil ?_
              refine TQ.then_n ?_
              refine T.block ?_
              refine T.loop (ι := Nat) (fun j => j ≤ (rs[k]'(by omega)).body.length ∧ atomsOk rels (rs[k]'(by omega)).body = atomsOk rels ((rs[k]'(by omega)).body.drop j)) (fun j => [(0, .int .i64 rels), (1, .slice a rs.length c), (5, .int .i64 (k : Int)), (6, .slice (rs[k]'(by omega)).ba (rs[k]'(by omega)).body.length (rs[k]'(by omega)).bc), (7, .int .i64 (j : Int))]) (fun _ => η) (fun j => (rs[k]'(by omega)).body.length - j) 0 ⟨Nat.zero_le _, by simp⟩ ⟨rfl, rfl, rfl, rfl, rfl, trivial⟩ rfl ?_
              rintro j ⟨hj, hjs⟩
              refine T.seq ?_
              refine T.seq ?_
              refine T.region ?_
              refine TL.move hF rfl rfl ?_
              refine TL.move hF rfl rfl ?_
              refine TL.len hF rfl rfl ?_
              refine TL.bin hF rfl rfl rfl rfl ?_
              refine TL.nil ?_
              refine TQ.then_n ?_
              first | refine T.cond_d rfl (fun ht43 => ?_) (fun ht43 => ?_) | refine T.cond _ rfl (fun ht43 => ?_) (fun ht43 => ?_)
              · refine T.skip ?_
                refine TQ.then_n ?_
                refine T.seq ?_
                refine T.block ?_
                refine T.seq ?_
                refine T.region ?_
                refine TL.move hF rfl rfl ?_
                refine TL.move hF rfl rfl ?_
                refine TL.indexAddr hF rfl rfl (hr.bad (i := k) (by omega) (by omega)) (by omega) (by omega) rfl ?_
                refine TL.fieldAddr hF rfl rfl ?_
                refine TL.load hF rfl (hr.bat (i := k) (by omega) (k := j) (by omega) 0 rfl) rfl ?_
                refine TL.move hF rfl rfl ?_
                refine TL.callV hF (in_fn _ _) rfl rfl ?_
                refine TL.not hF rfl rfl ?_
                refine TL.nil ?_
                refine TQ.then_n ?_
                refine T.cond _ rfl (fun ht53 => ?_) (fun ht53 => ?_)
                · refine T.seq ?_
                  refine T.region ?_
                  refine TL.assign hF rfl rfl ?_
                  refine TL.nil ?_
                  refine TQ.then_n ?_
                  refine T.ret ?_
                  refine TQ.block_r ?_
                  refine TQ.then_r ?_
                  refine TQ.then_r ?_
                  refine TQ.block_r ?_
                  refine TQ.block_r ?_
                  refine TQ.then_r ?_
                  refine TQ.then_r ?_
                  refine TQ.block_r ?_
                  refine TQ.then_r ?_
                  refine TQ.rets [4] _ rfl rfl rfl ?_
                  simp at ht39 ht53
                  have h1 : atomsOk rels (rs[k]'(by omega)).body = false := by rw [hjs, drop_step (by omega), atomsOk]; simp [ht53]
                  exact ⟨by rw [hs, drop_step (by omega), errs]; simp [retVal, checkR, show ¬ 6 < (rs[k]'(by omega)).body.length by omega, ht39, h1], rfl⟩
                · refine T.skip ?_
                  refine TQ.block_n ?_
                  refine TQ.then_n ?_
                  refine T.region ?_
                  refine TL.move hF rfl rfl ?_
                  refine TL.add hF rfl rfl (by omega) (by omega) rfl ?_
                  refine TL.assign hF rfl rfl ?_
                  refine TL.nil ?_
                  refine TQ.round (j + 1) ⟨by omega, by rw [hjs, drop_step (by omega), atomsOk]; simp at ht53; simp [ht53]⟩ (by omega) ⟨rfl, rfl, rfl, rfl, rfl, trivial⟩ rfl
              · refine T.exit ?_
                refine TQ.then_x ?_
                refine TQ.then_x ?_
                refine TQ.block_x ?_
                refine TQ.block_n ?_
                refine TQ.then_n ?_
                refine T.region ?_
                refine TL.move hF rfl rfl ?_
                refine TL.add hF rfl rfl (by omega) (by omega) rfl ?_
                refine TL.assign hF rfl rfl ?_
                refine TL.nil ?_
                refine TQ.round (k + 1) ⟨by omega, ?_⟩ (by omega) ⟨rfl, rfl, rfl, trivial⟩ rfl
                have h1 : atomsOk rels (rs[k]'(by omega)).body = true := by rw [hjs, List.drop_of_length_le (by omega)]; rfl
                simp at ht39
                have h2 : checkR rels (rs[k]'(by omega)) = 0 := by simp [checkR, ht39, h1]; omega
                rw [hs, drop_step (by omega), errs, if_pos h2]
        · refine T.exit ?_
          refine TQ.then_x ?_
          refine TQ.then_x ?_
          refine TQ.block_x ?_
          refine TQ.then_n ?_
          refine T.seq ?_
          refine T.region ?_
          refine TL.assign hF rfl rfl ?_
          refine TL.nil ?_
          refine TQ.then_n ?_
          refine T.ret ?_
          refine TQ.rets [4] _ rfl rfl rfl ?_
          exact ⟨by rw [hs, List.drop_of_length_le (by omega)]; rfl, rfl⟩
set_option maxHeartbeats 2000000 in
theorem Uses_fn {a : Option Addr} {rs : List RuleD} {c : Nat} (p q : Int) (dn : Bool) (hr : Rules S w0 [] a rs) (hl : rs.length < 2 ^ 63) (hb : ∀ r ∈ rs, r.body.length < 2 ^ 63) :
    Rt Try.prog 39 [.slice a rs.length c, .int .i64 p, .int .i64 q, .bool dn].toArray S w0 η (fun v η' => v = .bool (uses p q dn rs) ∧ η' = η) := by
  have hF := open_wide
  refine Rt.of (fn := Try.f39) Try.func39 rfl rfl ?_
  refine T.seq ?_
  refine T.region ?_
  refine TL.assign hF rfl rfl ?_
  refine TL.nil ?_
  refine TQ.then_n ?_
  refine T.seq ?_
  refine T.seq ?_
  refine T.region ?_
  refine TL.assign hF rfl rfl ?_
  refine TL.nil ?_
  refine TQ.then_n ?_
  refine T.block ?_
  refine T.loop (ι := Nat) (fun k => k ≤ rs.length ∧ uses p q dn rs = uses p q dn (rs.drop k)) (fun k => [(0, .slice a rs.length c), (1, .int .i64 p), (2, .int .i64 q), (3, .bool dn), (9, .int .i64 (k : Int))]) (fun _ => η) (fun k => rs.length - k) 0 ⟨Nat.zero_le _, by simp⟩ ⟨rfl, rfl, rfl, rfl, rfl, trivial⟩ rfl ?_
  rintro k ⟨hk, hs⟩
  refine T.seq ?_
  refine T.seq ?_
  refine T.region ?_
  refine TL.move hF rfl rfl ?_
  refine TL.move hF rfl rfl ?_
  refine TL.len hF rfl rfl ?_
  refine TL.bin hF rfl rfl rfl rfl ?_
  refine TL.nil ?_
  refine TQ.then_n ?_
  first | refine T.cond_d rfl (fun ht15 => ?_) (fun ht15 => ?_) | refine T.cond _ rfl (fun ht15 => ?_) (fun ht15 => ?_)
  · refine T.skip ?_
    refine TQ.then_n ?_
    refine T.seq ?_
    refine T.block ?_
    refine T.seq ?_
    refine T.region ?_
    refine TL.assign hF rfl rfl ?_
    refine TL.nil ?_
    refine TQ.then_n ?_
    refine T.block ?_
    have hbk := hb (rs[k]'(by omega)) (List.getElem_mem _)
    refine T.loop (ι := Nat) (fun j => j ≤ (rs[k]'(by omega)).body.length ∧ (decide ((rs[k]'(by omega)).head = p) && usesA q dn (rs[k]'(by omega)).body) = (decide ((rs[k]'(by omega)).head = p) && usesA q dn ((rs[k]'(by omega)).body.drop j))) (fun j => [(0, .slice a rs.length c), (1, .int .i64 p), (2, .int .i64 q), (3, .bool dn), (9, .int .i64 (k : Int)), (10, .int .i64 (j : Int))]) (fun _ => η) (fun j => (rs[k]'(by omega)).body.length - j) 0 ⟨Nat.zero_le _, by simp⟩ ⟨rfl, rfl, rfl, rfl, rfl, rfl, trivial⟩ rfl ?_
    rintro j ⟨hj, hjs⟩
    refine T.seq ?_
    refine T.seq ?_
    refine T.region ?_
    refine TL.move hF rfl rfl ?_
    refine TL.move hF rfl rfl ?_
    refine TL.move hF rfl rfl ?_
    refine TL.indexAddr hF rfl rfl (hr.ro.ad (η := η) (by omega)) (by omega) (by omega) rfl ?_
    refine TL.fieldAddr hF rfl rfl ?_
    refine TL.fieldAddr hF rfl rfl ?_
    refine TL.load hF rfl (hr.ro.at (i := k) (by omega) 2 rfl) rfl ?_
    refine TL.len hF rfl rfl ?_
    refine TL.bin hF rfl rfl rfl rfl ?_
    refine TL.nil ?_
    refine TQ.then_n ?_
    first | refine T.cond_d rfl (fun ht26 => ?_) (fun ht26 => ?_) | refine T.cond _ rfl (fun ht26 => ?_) (fun ht26 => ?_)
    · refine T.skip ?_
      refine TQ.then_n ?_
      refine T.seq ?_
      refine T.block ?_
      refine T.seq ?_
      refine T.region ?_
      refine TL.move hF rfl rfl ?_
      refine TL.move hF rfl rfl ?_
      refine TL.indexAddr hF rfl rfl (hr.ro.ad (η := η) (by omega)) (by omega) (by omega) rfl ?_
      refine TL.fieldAddr hF rfl rfl ?_
      refine TL.fieldAddr hF rfl rfl ?_
      refine TL.load hF rfl (hr.ro.at (i := k) (by omega) 2 rfl) rfl ?_
      refine TL.move hF rfl rfl ?_
      refine TL.indexAddr hF rfl rfl (hr.ro.bad (η := η) (i := k) (by omega) (by omega)) (by omega) (by omega) rfl ?_
      refine TL.loadA hF (rs[k]'(by omega)).body[j].cells rfl rfl (hr.ro.batA (i := k) (by omega) (k := j) (by omega)) rfl ?_
      refine TL.alloc hF rfl (fun b11 => ?_)
      refine TL.storeAI hF (rs[k]'(by omega)).body[j].cells 0 rfl rfl rfl rfl (by simp [AtomD.cells, Value.oneCell']) (by simp [Value.cells, acells_len]) ?_
      refine TL.nil ?_
      refine TQ.then_n ?_
      refine T.seq ?_
      refine T.region ?_
      refine TL.move hF rfl rfl ?_
      refine TL.move hF rfl rfl ?_
      refine TL.indexAddr hF rfl rfl (hr.ro.ad (η := η) (by omega)) (by omega) (by omega) rfl ?_
      refine TL.fieldAddr hF rfl rfl ?_
      refine TL.load hF rfl (hr.ro.at (i := k) (by omega) 0 rfl) rfl ?_
      refine TL.move hF rfl rfl ?_
      refine TL.bin hF rfl rfl rfl rfl ?_
      refine TL.move hF rfl rfl ?_
      refine TL.gd (t := 45) rfl (fun g8_45 => ?_) (fun g8_45 => ?_)
      · refine TL.on rfl rfl rfl (decide_eq_true g8_45) ?_
        refine TL.fieldAddr hF rfl rfl ?_
        refine TL.on rfl rfl rfl (decide_eq_true g8_45) ?_
        refine TL.load hF rfl (by first | exact At.own' (i := 0) rfl rfl | exact At.own' (i := 1) rfl rfl | exact At.own' (i := 2) rfl rfl | exact At.own' (i := 3) rfl rfl | exact At.own' (i := 4) rfl rfl) rfl ?_
        refine TL.on rfl rfl rfl (decide_eq_true g8_45) ?_
        refine TL.move hF rfl rfl ?_
        refine TL.on rfl rfl rfl (decide_eq_true g8_45) ?_
        refine TL.bin hF rfl rfl rfl rfl ?_
        refine TL.pickT hF rfl (decide_eq_true g8_45) rfl rfl ?_
        refine TL.move hF rfl rfl ?_
        refine TL.gd (t := 51) rfl (fun g8_51 => ?_) (fun g8_51 => ?_)
        · refine TL.on rfl rfl rfl (decide_eq_true g8_51) ?_
          refine TL.fieldAddr hF rfl rfl ?_
          refine TL.on rfl rfl rfl (decide_eq_true g8_51) ?_
          refine TL.load hF rfl (by first | exact At.own' (i := 0) rfl rfl | exact At.own' (i := 1) rfl rfl | exact At.own' (i := 2) rfl rfl | exact At.own' (i := 3) rfl rfl | exact At.own' (i := 4) rfl rfl) rfl ?_
          refine TL.on rfl rfl rfl (decide_eq_true g8_51) ?_
          refine TL.move hF rfl rfl ?_
          refine TL.gb (t := 54) rfl (fun g8_54 => ?_) (fun g8_54 => ?_)
          · refine TL.off hF rfl rfl rfl g8_54 rfl ?_
            refine TL.off hF rfl rfl rfl g8_54 rfl ?_
            refine TL.on rfl rfl rfl (decide_eq_true g8_51) ?_
            refine TL.pickT hF rfl g8_54 rfl rfl ?_
            refine TL.pickT hF rfl (decide_eq_true g8_51) rfl rfl ?_
            refine TL.nil ?_
            refine TQ.then_n ?_
            refine T.cond_t rfl rfl ?_
            refine T.seq ?_
            refine T.region ?_
            refine TL.assign hF rfl rfl ?_
            refine TL.nil ?_
            refine TQ.then_n ?_
            refine T.ret ?_
            refine TQ.block_r ?_
            refine TQ.then_r ?_
            refine TQ.then_r ?_
            refine TQ.block_r ?_
            refine TQ.block_r ?_
            refine TQ.then_r ?_
            refine TQ.then_r ?_
            refine TQ.block_r ?_
            refine TQ.then_r ?_
            refine TQ.pop ?_
            refine TQ.rets [8] _ rfl rfl rfl ?_
            have h1 : (decide ((rs[k]'(by omega)).head = p) && usesA q dn (rs[k]'(by omega)).body) = true := by rw [hjs, drop_step (by omega), usesA]; simp_all [hit]
            exact ⟨by rw [hs, drop_step (by omega), uses]; simp [h1, retVal], rfl⟩
          · refine TL.on rfl rfl rfl g8_54 ?_
            refine TL.move hF rfl rfl ?_
            refine TL.on rfl rfl rfl g8_54 ?_
            refine TL.not hF rfl rfl ?_
            refine TL.on rfl rfl rfl (decide_eq_true g8_51) ?_
            refine TL.pickF hF rfl g8_54 rfl rfl ?_
            refine TL.pickT hF rfl (decide_eq_true g8_51) rfl rfl ?_
            refine TL.nil ?_
            refine TQ.then_n ?_
            refine T.cond _ rfl (fun ht58 => ?_) (fun ht58 => ?_)
            · refine T.seq ?_
              refine T.region ?_
              refine TL.assign hF rfl rfl ?_
              refine TL.nil ?_
              refine TQ.then_n ?_
              refine T.ret ?_
              refine TQ.block_r ?_
              refine TQ.then_r ?_
              refine TQ.then_r ?_
              refine TQ.block_r ?_
              refine TQ.block_r ?_
              refine TQ.then_r ?_
              refine TQ.then_r ?_
              refine TQ.block_r ?_
              refine TQ.then_r ?_
              refine TQ.pop ?_
              refine TQ.rets [8] _ rfl rfl rfl ?_
              have h1 : (decide ((rs[k]'(by omega)).head = p) && usesA q dn (rs[k]'(by omega)).body) = true := by rw [hjs, drop_step (by omega), usesA]; simp_all [hit]
              exact ⟨by rw [hs, drop_step (by omega), uses]; simp [h1, retVal], rfl⟩
            · refine T.skip ?_
              refine TQ.block_n ?_
              refine TQ.then_n ?_
              refine T.region ?_
              refine TL.move hF rfl rfl ?_
              refine TL.add hF rfl rfl (by omega) (by omega) rfl ?_
              refine TL.assign hF rfl rfl ?_
              refine TL.nil ?_
              refine TQ.pop ?_
              refine TQ.round (j + 1) ⟨by omega, by rw [hjs, drop_step (by omega), usesA]; simp_all [hit]⟩ (by omega) ⟨rfl, rfl, rfl, rfl, rfl, rfl, trivial⟩ rfl
        · refine TL.off hF rfl rfl rfl (decide_eq_false g8_51) rfl ?_
          refine TL.off hF rfl rfl rfl (decide_eq_false g8_51) rfl ?_
          refine TL.off hF rfl rfl rfl (decide_eq_false g8_51) rfl ?_
          refine TL.offU hF rfl rfl rfl rfl ?_
          refine TL.offU hF rfl rfl rfl rfl ?_
          refine TL.off hF rfl rfl rfl (decide_eq_false g8_51) rfl ?_
          refine TL.pickF hF rfl (decide_eq_false g8_51) rfl rfl ?_
          refine TL.nil ?_
          refine TQ.then_n ?_
          refine T.cond_f rfl rfl ?_
          refine T.skip ?_
          refine TQ.block_n ?_
          refine TQ.then_n ?_
          refine T.region ?_
          refine TL.move hF rfl rfl ?_
          refine TL.add hF rfl rfl (by omega) (by omega) rfl ?_
          refine TL.assign hF rfl rfl ?_
          refine TL.nil ?_
          refine TQ.pop ?_
          refine TQ.round (j + 1) ⟨by omega, by rw [hjs, drop_step (by omega), usesA]; simp_all [hit]⟩ (by omega) ⟨rfl, rfl, rfl, rfl, rfl, rfl, trivial⟩ rfl
      · refine TL.off hF rfl rfl rfl (decide_eq_false g8_45) rfl ?_
        refine TL.off hF rfl rfl rfl (decide_eq_false g8_45) rfl ?_
        refine TL.off hF rfl rfl rfl (decide_eq_false g8_45) rfl ?_
        refine TL.off hF rfl rfl rfl (decide_eq_false g8_45) rfl ?_
        refine TL.pickF hF rfl (decide_eq_false g8_45) rfl rfl ?_
        refine TL.move hF rfl rfl ?_
        refine TL.off hF rfl rfl rfl rfl rfl ?_
        refine TL.off hF rfl rfl rfl rfl rfl ?_
        refine TL.off hF rfl rfl rfl rfl rfl ?_
        refine TL.offU hF rfl rfl rfl rfl ?_
        refine TL.offU hF rfl rfl rfl rfl ?_
        refine TL.off hF rfl rfl rfl rfl rfl ?_
        refine TL.pickF hF rfl rfl rfl rfl ?_
        refine TL.nil ?_
        refine TQ.then_n ?_
        refine T.cond_f rfl rfl ?_
        refine T.skip ?_
        refine TQ.block_n ?_
        refine TQ.then_n ?_
        refine T.region ?_
        refine TL.move hF rfl rfl ?_
        refine TL.add hF rfl rfl (by omega) (by omega) rfl ?_
        refine TL.assign hF rfl rfl ?_
        refine TL.nil ?_
        refine TQ.pop ?_
        refine TQ.round (j + 1) ⟨by omega, by rw [hjs, drop_step (by omega), usesA]; simp_all [hit]⟩ (by omega) ⟨rfl, rfl, rfl, rfl, rfl, rfl, trivial⟩ rfl
    · refine T.exit ?_
      refine TQ.then_x ?_
      refine TQ.then_x ?_
      refine TQ.block_x ?_
      refine TQ.block_n ?_
      refine TQ.then_n ?_
      refine T.region ?_
      refine TL.move hF rfl rfl ?_
      refine TL.add hF rfl rfl (by omega) (by omega) rfl ?_
      refine TL.assign hF rfl rfl ?_
      refine TL.nil ?_
      refine TQ.round (k + 1) ⟨by omega, ?_⟩ (by omega) ⟨rfl, rfl, rfl, rfl, rfl, trivial⟩ rfl
      have h1 : (decide ((rs[k]'(by omega)).head = p) && usesA q dn (rs[k]'(by omega)).body) = false := by rw [hjs, List.drop_of_length_le (by omega)]; simp [usesA]
      rw [hs, drop_step (by omega), uses, h1, Bool.false_or]
  · refine T.exit ?_
    refine TQ.then_x ?_
    refine TQ.then_x ?_
    refine TQ.block_x ?_
    refine TQ.then_n ?_
    refine T.seq ?_
    refine T.region ?_
    refine TL.assign hF rfl rfl ?_
    refine TL.nil ?_
    refine TQ.then_n ?_
    refine T.ret ?_
    refine TQ.rets [8] _ rfl rfl rfl ?_
    exact ⟨by rw [hs, List.drop_of_length_le (by omega)]; rfl, rfl⟩
end Go.Proofs.Ytdehpaikapbckaa
/- Ways of uses, and matrices of words that say who leads to whom: in plain Lean, and as they lie in memory. -/
namespace Go.Proofs.Ytdehpaikapbckaa
open Go.Sl
/-- Ways by relations below k (Warshall). -/
def fwM (E : Nat → Nat → Bool) : Nat → Nat → Nat → Bool
  | 0, a, b => E a b
  | k + 1, a, b => fwM E k a b || (fwM E k a k && fwM E k k b)
theorem fw_col (E : Nat → Nat → Bool) (k a : Nat) : fwM E (k + 1) a k = fwM E k a k := by simp only [fwM]; cases fwM E k a k <;> simp
theorem fw_row (E : Nat → Nat → Bool) (k b : Nat) : fwM E (k + 1) k b = fwM E k k b := by simp only [fwM]; cases fwM E k k b <;> simp
theorem fw_mono {E : Nat → Nat → Bool} {a b : Nat} : ∀ {k l : Nat}, k ≤ l → fwM E k a b = true → fwM E l a b = true := by
  intro k l h hk
  induction l with
  | zero => have : k = 0 := by omega
            subst this; exact hk
  | succ l ih =>
    rcases Nat.lt_or_ge l k with h1 | h1
    · have : k = l + 1 := by omega
      subst this; exact hk
    · simp only [fwM, ih h1, Bool.true_or]
theorem fw_trans {E : Nat → Nat → Bool} {b : Nat} : ∀ {k : Nat} {a c : Nat}, b < k → fwM E k a b = true → fwM E k b c = true → fwM E k a c = true := by
  intro k
  induction k with
  | zero => intro a c h; omega
  | succ k ih =>
    intro a c h h1 h2
    rcases Nat.lt_or_ge b k with hb | hb
    · simp only [fwM, Bool.or_eq_true, Bool.and_eq_true] at h1 h2 ⊢
      rcases h1 with h1 | ⟨h1, h3⟩ <;> rcases h2 with h2 | ⟨h2, h4⟩
      · exact .inl (ih hb h1 h2)
      · exact .inr ⟨ih hb h1 h2, h4⟩
      · exact .inr ⟨h1, ih hb h3 h2⟩
      · exact .inr ⟨h1, h4⟩
    · have : b = k := by omega
      subst this
      rw [fw_col] at h1; rw [fw_row] at h2
      simp only [fwM, h1, h2, Bool.and_self, Bool.or_true]
/-- What is closed under uses has all to which one leads. -/
theorem fw_least {E : Nat → Nat → Bool} {n : Nat} (X : Nat → Prop) (hc : ∀ a b, a < n → b < n → X a → E a b = true → X b) : ∀ {k : Nat} {a b : Nat}, k ≤ n → a < n → b < n → X a → fwM E k a b = true → X b := by
  intro k
  induction k with
  | zero => intro a b _ ha hb hx h; exact hc a b ha hb hx h
  | succ k ih =>
    intro a b hk ha hb hx h
    simp only [fwM, Bool.or_eq_true, Bool.and_eq_true] at h
    rcases h with h | ⟨h1, h2⟩
    · exact ih (by omega) ha hb hx h
    · exact ih (by omega) (by omega) hb (ih (by omega) ha (by omega) hx h1) h2
/-- A way is a use, or a use and a way. -/
theorem fw_first {E : Nat → Nat → Bool} {n : Nat} {a b : Nat} (ha : a < n) (hb : b < n) (h : fwM E n a b = true) : E a b = true ∨ ∃ c, c < n ∧ E a c = true ∧ fwM E n c b = true := by
  have key : ∀ {k : Nat} {a b : Nat}, k ≤ n → a < n → b < n → fwM E k a b = true → E a b = true ∨ ∃ c, c < n ∧ E a c = true ∧ fwM E n c b = true := by
    intro k
    induction k with
    | zero => intro a b _ _ _ h; exact .inl h
    | succ k ih =>
      intro a b hk ha hb h
      simp only [fwM, Bool.or_eq_true, Bool.and_eq_true] at h
      rcases h with h | ⟨h1, h2⟩
      · exact ih (by omega) ha hb h
      · rcases ih (by omega) ha (by omega) h1 with h3 | ⟨c, hc, h3, h4⟩
        · exact .inr ⟨k, by omega, h3, fw_mono (by omega) h2⟩
        · exact .inr ⟨c, hc, h3, fw_trans (by omega) h4 (fw_mono (by omega) h2)⟩
  exact key (Nat.le_refl _) ha hb h
theorem fw_E {E : Nat → Nat → Bool} {n a b : Nat} (h : E a b = true) : fwM E n a b = true := fw_mono (Nat.zero_le n) h
theorem fw_congr {E E' : Nat → Nat → Bool} {n : Nat} (h : ∀ a b, a < n → b < n → E a b = E' a b) : ∀ {k a b : Nat}, k ≤ n → a < n → b < n → fwM E k a b = fwM E' k a b := by
  intro k
  induction k with
  | zero => intro a b _ ha hb; exact h a b ha hb
  | succ k ih => intro a b hk ha hb; simp only [fwM]; rw [ih (by omega) ha hb, ih (by omega) ha (by omega), ih (by omega) (by omega) hb]

/-! In memory -/
def rowC (n : Nat) (f : Nat → Bool) : List Value := (List.range n).map fun j => .bool (f j)
theorem rowC_len (n : Nat) (f : Nat → Bool) : (rowC n f).length = n := by simp [rowC]
theorem rowC_get {n : Nat} {f : Nat → Bool} {j : Nat} (h : j < n) : (rowC n f)[j]? = some (.bool (f j)) := by simp [rowC, h]
theorem rowC_congr {n : Nat} {f g : Nat → Bool} (h : ∀ j, j < n → f j = g j) : rowC n f = rowC n g := by
  unfold rowC; apply List.map_congr_left; intro j hj; rw [h j (by simpa using hj)]
theorem rowC_false (n : Nat) : List.replicate n (Value.bool false) = rowC n fun _ => false := by
  apply List.ext_getElem?; intro i; simp [rowC]
  by_cases h : i < n
  · rw [List.getElem?_replicate_of_lt h]; simp [h]
  · simp [h]
theorem rowC_set {n : Nat} {f g : Nat → Bool} {j : Nat} {v : Bool} (h : ∀ i, i < n → g i = if i = j then v else f i) : (rowC n f).toArray.setIfInBounds j (.bool v) = (rowC n g).toArray := by
  apply Array.ext'
  simp only [Array.toList_setIfInBounds]
  apply List.ext_getElem?
  intro i
  rw [List.getElem?_set]
  by_cases hi : i < n
  · rw [rowC_get hi, rowC_get hi, h i hi]
    by_cases hj : j = i
    · subst hj; simp [rowC_len, hi]
    · simp [hj, Ne.symm hj]
  · have h1 : (rowC n f)[i]? = none := by simp [rowC]; omega
    have h2 : (rowC n g)[i]? = none := by simp [rowC]; omega
    rw [h1, h2]
    by_cases hj : j = i
    · subst hj; simp [rowC_len, hi]
    · simp [hj]
def rowV (n : Nat) (b : Nat) : Value := .slice (some ⟨b, 0, none⟩) n n
def msegs (n : Nat) (M : Nat → Nat → Bool) (bs : List Nat) : Heap := (List.range bs.length).map fun i => [(bs.getD i 0, .cells (rowC n (M i)).toArray 4 (0, 0))]
theorem msegs_len (n : Nat) (M : Nat → Nat → Bool) (bs : List Nat) : (msegs n M bs).length = bs.length := by simp [msegs]
theorem msegs_get {n : Nat} {M : Nat → Nat → Bool} {bs : List Nat} {r : Heap} {i : Nat} (h : i < bs.length) : (msegs n M bs ++ r)[i]? = some [(bs.getD i 0, .cells (rowC n (M i)).toArray 4 (0, 0))] := by
  rw [List.getElem?_append_left (by rw [msegs_len]; exact h)]; simp [msegs, h]
theorem msegs_at {n : Nat} {M : Nat → Nat → Bool} {bs : List Nat} {s : Seg} {r : Heap} {i : Nat} (h : i = bs.length) : (msegs n M bs ++ s :: r)[i]? = some s := by
  subst h
  rw [List.getElem?_append_right (by rw [msegs_len]; omega), msegs_len]; simp
theorem msegs_setAt {n : Nat} {M : Nat → Nat → Bool} {bs : List Nat} {s s' : Seg} {r : Heap} {i : Nat} (h : i = bs.length) : (msegs n M bs ++ s :: r).set i s' = msegs n M bs ++ s' :: r := by
  subst h
  rw [List.set_append_right _ _ (by rw [msegs_len]; omega), msegs_len]; simp
theorem msegs_snoc (n : Nat) (M : Nat → Nat → Bool) (bs : List Nat) (b : Nat) : msegs n M (bs ++ [b]) = msegs n M bs ++ [[(b, .cells (rowC n (M bs.length)).toArray 4 (0, 0))]] := by
  simp only [msegs, List.length_append, List.length_cons, List.length_nil, Nat.zero_add, List.range_succ, List.map_append, List.map_cons, List.map_nil]
  congr 1
  · apply List.map_congr_left
    intro i hi
    have hi : i < bs.length := by simpa using hi
    simp [List.getD_eq_getElem?_getD, List.getElem?_append_left hi]
  · simp
theorem msegs_congr {n : Nat} {M M' : Nat → Nat → Bool} {bs : List Nat} (h : ∀ i j, i < bs.length → j < n → M i j = M' i j) : msegs n M bs = msegs n M' bs := by
  unfold msegs
  apply List.map_congr_left
  intro i hi
  rw [rowC_congr (h i · (by simpa using hi))]
theorem msegs_set {n : Nat} {M M' : Nat → Nat → Bool} {bs : List Nat} {r : Heap} {a j : Nat} {v : Bool} (ha : a < bs.length) (h1 : ∀ i, i < n → M' a i = if i = j then v else M a i) (h2 : ∀ k i, k < bs.length → k ≠ a → i < n → M' k i = M k i) :
    (msegs n M bs ++ r).set a [(bs.getD a 0, .cells ((rowC n (M a)).toArray.setIfInBounds j (.bool v)) 4 (0, 0))] = msegs n M' bs ++ r := by
  rw [rowC_set h1, List.set_append_left _ _ (by rw [msegs_len]; exact ha)]
  congr 1
  apply List.ext_getElem?
  intro k
  rw [List.getElem?_set]
  by_cases hk : k < bs.length
  · by_cases hka : a = k
    · subst hka
      rw [if_pos rfl, if_pos (by rw [msegs_len]; exact ha)]
      simp [msegs, ha]
    · rw [if_neg hka]
      simp only [msegs, List.getElem?_map, List.getElem?_range hk, Option.map_some]
      rw [rowC_congr (fun i hi => (h2 k i hk (fun e => hka e.symm) hi).symm)]
  · have e1 : (msegs n M bs)[k]? = none := List.getElem?_eq_none (by rw [msegs_len]; omega)
    have e2 : (msegs n M' bs)[k]? = none := List.getElem?_eq_none (by rw [msegs_len]; omega)
    rw [e1, e2, if_neg (fun e : a = k => hk (e ▸ ha))]
variable {S : Nat → Prop} {w0 : World} {η : Heap}
theorem msegs_mem {n : Nat} {M : Nat → Nat → Bool} {bs : List Nat} {i : Nat} (h : i < bs.length) : [(bs.getD i 0, Obj.cells (rowC n (M i)).toArray 4 (0, 0))] ∈ msegs n M bs := by
  simp only [msegs, List.mem_map, List.mem_range]; exact ⟨i, h, rfl⟩
/-- A matrix that is read. -/
def Mat (S : Nat → Prop) (w0 : World) (η : Heap) (a : Option Addr) (n : Nat) (M : Nat → Nat → Bool) : Prop :=
  ∃ f : Nat → Option Addr × Nat, ∀ i, i < n → (∃ ad, a = some ad ∧ ad.spot = none) ∧ At S w0 η (sAt a (i * 1)) (.slice (f i).1 n (f i).2) ∧ Row S w0 η (f i).1 (rowC n (M i))
theorem Mat.up {η' : Heap} {a : Option Addr} {n : Nat} {M : Nat → Nat → Bool} (h : Mat S w0 η a n M) (hs : ∀ seg ∈ η, seg ∈ η') : Mat S w0 η' a n M := by
  obtain ⟨f, hf⟩ := h
  exact ⟨f, fun i hi => ⟨(hf i hi).1, (hf i hi).2.1.up hs, (hf i hi).2.2.up hs⟩⟩
theorem Mat.congr {a : Option Addr} {n : Nat} {M M' : Nat → Nat → Bool} (h : Mat S w0 η a n M) (hc : ∀ i j, i < n → j < n → M i j = M' i j) : Mat S w0 η a n M' := by
  obtain ⟨f, hf⟩ := h
  exact ⟨f, fun i hi => ⟨(hf i hi).1, (hf i hi).2.1, by rw [← rowC_congr (fun j hj => hc i j hi hj)]; exact (hf i hi).2.2⟩⟩
/-- An owned block is a row. -/
theorem row_own {b : Nat} {cs : List Value} {e : TypeId} (h : [(b, Obj.cells cs.toArray e (0, 0))] ∈ η) : Row S w0 η (some ⟨b, 0, none⟩) cs :=
  ⟨fun _ => ⟨_, rfl, rfl⟩, fun i v hi => .own _ h cs.toArray e (0, 0) (by simp [sAt]) (by simpa [sAt] using hi) (by simp [sAt])⟩
theorem Mat.own {a : Option Addr} {n cap : Nat} {M : Nat → Nat → Bool} {bs : List Nat} {seg : Seg} {r : Heap} (hn : bs.length = n) (ho : OSl 42 1 (.slice a n cap) n (bs.map (rowV n)) seg) : Mat S w0 (msegs n M bs ++ seg :: r) a n M := by
  refine ⟨fun i => (some ⟨bs.getD i 0, 0, none⟩, n), fun i hi => ?_⟩
  have hr : Row S w0 (msegs n M bs ++ seg :: r) a (bs.map (rowV n)) := ho.row (by simp)
  refine ⟨hr.adi (i := i) (by simp; omega), ?_, row_own (e := 4) (List.mem_append_left _ (msegs_mem (by omega)))⟩
  rw [Nat.mul_one]
  exact hr.cell i _ (by simp [rowV, List.getD_eq_getElem?_getD, hn, hi])
theorem osl_ad {e : TypeId} {sz n : Nat} {a : Option Addr} {l cap : Nat} {xs : List Value} {seg : Seg} (ho : OSl e sz (.slice a l cap) n xs seg) (hn : 0 < n) : ∃ ad, a = some ad ∧ ad.spot = none := by
  rcases ho.2 with ⟨hv, h0, _⟩ | ⟨g, cap', cur, hv, _⟩
  · omega
  · cases hv; exact ⟨_, rfl, rfl⟩
/-- One pass of Warshall, part of the way. -/
def mid (E : Nat → Nat → Bool) (via a b i j : Nat) : Bool := if i < a ∨ (i = a ∧ j < b) then fwM E (via + 1) i j else fwM E via i j
theorem mid_next {E : Nat → Nat → Bool} {via a b i j : Nat} (h : ¬ (i = a ∧ j = b)) : mid E via a (b + 1) i j = mid E via a b i j := by
  unfold mid
  by_cases h1 : i < a ∨ (i = a ∧ j < b)
  · rw [if_pos h1, if_pos (by omega)]
  · rw [if_neg h1, if_neg (by omega)]
theorem mid_here {E : Nat → Nat → Bool} {via a b : Nat} : mid E via a (b + 1) a b = (mid E via a b a b || (mid E via a b a via && mid E via a b via b)) := by
  have h1 : mid E via a b a via = fwM E via a via := by unfold mid; split; exact fw_col E via a; rfl
  have h2 : mid E via a b via b = fwM E via via b := by unfold mid; split; exact fw_row E via b; rfl
  have h3 : mid E via a b a b = fwM E via a b := by unfold mid; rw [if_neg (by omega)]
  have h4 : mid E via a (b + 1) a b = fwM E (via + 1) a b := by unfold mid; rw [if_pos (by omega)]
  rw [h1, h2, h3, h4]; rfl
theorem mid_row {E : Nat → Nat → Bool} {via a n i j : Nat} (hj : j < n) : mid E via a n i j = mid E via (a + 1) 0 i j := by
  unfold mid
  by_cases h : i < a ∨ (i = a ∧ j < n)
  · rw [if_pos h, if_pos (by omega)]
  · rw [if_neg h, if_neg (by omega)]
theorem mid_all {E : Nat → Nat → Bool} {via n i j : Nat} (hi : i < n) : mid E via n 0 i j = fwM E (via + 1) i j := by
  unfold mid; rw [if_pos (by omega)]
end Go.Proofs.Ytdehpaikapbckaa
/- The reference's matrix of ways. -/
namespace Go.Proofs.Ytdehpaikapbckaa
open Go.Sl
variable {S : Nat → Prop} {w0 : World} {η : Heap}
/-- The uses of rules, of numbers from 0 on. -/
abbrev EU (rs : List RuleD) (a b : Nat) : Bool := uses a b false rs
abbrev ED (rs : List RuleD) (a b : Nat) : Bool := uses a b true rs

set_option maxHeartbeats 2000000 in
theorem Leads_fn {p : Option Addr} {rs : List RuleD} {c n : Nat} (hr : Rules S w0 [] p rs) (hl : rs.length < 2 ^ 63) (hb : ∀ r ∈ rs, r.body.length < 2 ^ 63) (hn : n ≤ 1000) :
    Rt Try.prog 30 [.int .i64 (n : Int), .slice p rs.length c].toArray S w0 η (fun v η' => ∃ a cap segs, v = .slice a n cap ∧ η' = segs ++ η ∧ Mat S w0 segs a n (fwM (EU rs) n)) := by
  have hF := open_wide
  refine Rt.of (fn := Try.f30) Try.func30 rfl rfl ?_
  refine T.seq ?_
  refine T.region ?_
  refine TL.assign hF rfl rfl ?_
  refine TL.nil ?_
  refine TQ.then_n ?_
  refine T.seq ?_
  refine T.region ?_
  refine TL.assign hF rfl rfl ?_
  refine TL.nil ?_
  refine TQ.then_n ?_
  refine T.seq ?_
  refine T.seq ?_
  refine T.region ?_
  refine TL.assign hF rfl rfl ?_
  refine TL.nil ?_
  refine TQ.then_n ?_
  refine T.block ?_
  refine T.hnil ?_
  refine T.loop (ι := Nat × List Nat × Option Addr × Nat × Seg) (fun i => i.1 ≤ n ∧ i.2.1.length = i.1 ∧ OSl 42 1 (.slice i.2.2.1 i.1 i.2.2.2.1) i.1 (i.2.1.map (rowV n)) i.2.2.2.2) (fun i => [(0, .int .i64 (n : Int)), (1, .slice p rs.length c), (5, .slice i.2.2.1 i.1 i.2.2.2.1), (6, .int .i64 (i.1 : Int))]) (fun i => msegs n (EU rs) i.2.1 ++ i.2.2.2.2 :: η) (fun i => n - i.1) (0, [], none, 0, []) ⟨Nat.zero_le _, rfl, OSl.nil 42 1⟩ ⟨rfl, rfl, rfl, rfl, trivial⟩ rfl ?_
  rintro ⟨k, bs, a, cap, seg⟩ ⟨hk, hbs, ho⟩
  simp only at hk hbs ho
  refine T.seq ?_
  refine T.seq ?_
  refine T.region ?_
  refine TL.move hF rfl rfl ?_
  refine TL.move hF rfl rfl ?_
  refine TL.bin hF rfl rfl rfl rfl ?_
  refine TL.nil ?_
  refine TQ.then_n ?_
  first | refine T.cond_d rfl (fun ht14 => ?_) (fun ht14 => ?_) | refine T.cond _ rfl (fun ht14 => ?_) (fun ht14 => ?_)
  · refine T.skip ?_
    refine TQ.then_n ?_
    refine T.seq ?_
    refine T.block ?_
    refine T.seq ?_
    refine T.region ?_
    refine TL.move hF rfl rfl ?_
    refine TL.makeSlice hF (k := n) rfl rfl rfl (by omega) (by omega) rfl (fun b18 => ?_)
    refine TL.assign hF rfl rfl ?_
    refine TL.nil ?_
    refine TQ.then_n ?_
    refine T.seq ?_
    refine T.seq ?_
    refine T.region ?_
    refine TL.assign hF rfl rfl ?_
    refine TL.nil ?_
    refine TQ.then_n ?_
    refine T.block ?_
    refine T.loop (ι := Nat) (fun j => j ≤ n) (fun j => [(0, .int .i64 (n : Int)), (1, .slice p rs.length c), (5, .slice a k cap), (6, .int .i64 (k : Int)), (7, rowV n b18), (8, .int .i64 (j : Int))]) (fun j => [(b18, .cells (rowC n (fun i => if i < j then EU rs k i else false)).toArray 4 (0, 0))] :: (msegs n (EU rs) bs ++ seg :: η)) (fun j => n - j) 0 (Nat.zero_le _) ⟨rfl, rfl, rfl, rfl, rfl, rfl, trivial⟩ (by simp [rowC_false]) ?_
    rintro j hj
    refine T.seq ?_
    refine T.seq ?_
    refine T.region ?_
    refine TL.move hF rfl rfl ?_
    refine TL.move hF rfl rfl ?_
    refine TL.bin hF rfl rfl rfl rfl ?_
    refine TL.nil ?_
    refine TQ.then_n ?_
    first | refine T.cond_d rfl (fun ht21 => ?_) (fun ht21 => ?_) | refine T.cond _ rfl (fun ht21 => ?_) (fun ht21 => ?_)
    · refine T.skip ?_
      refine TQ.then_n ?_
      refine T.seq ?_
      refine T.block ?_
      refine T.region ?_
      refine TL.move hF rfl rfl ?_
      refine TL.move hF rfl rfl ?_
      refine TL.move hF rfl rfl ?_
      refine TL.move hF rfl rfl ?_
      refine TL.move hF rfl rfl ?_
      refine TL.callV hF (Uses_fn k j false hr hl hb) rfl rfl ?_
      refine TL.indexAddr hF rfl rfl ⟨_, rfl, rfl⟩ (by omega) (by omega) rfl ?_
      refine TL.storeI hF 0 rfl rfl rfl rfl (by simp [rowC_len]; omega) ?_
      refine TL.nil ?_
      refine TQ.block_n ?_
      refine TQ.then_n ?_
      refine T.region ?_
      refine TL.move hF rfl rfl ?_
      refine TL.add hF rfl rfl (by omega) (by omega) rfl ?_
      refine TL.assign hF rfl rfl ?_
      refine TL.nil ?_
      refine TQ.round (j + 1) (by omega) (by omega) ⟨rfl, rfl, rfl, rfl, rfl, rfl, trivial⟩ ?_
      refine congrArg (fun r => ([(b18, Obj.cells r 4 (0, 0))] : Seg) :: (msegs n (EU rs) bs ++ seg :: η)) (rowC_set (g := fun i => if i < j + 1 then EU rs k i else false) ?_)
      intro i hi
      show _ = if i = 0 + (j : Int).toNat * 1 then _ else _
      rw [show 0 + (j : Int).toNat * 1 = j by simp]
      rcases Nat.lt_trichotomy i j with h | h | h
      · rw [if_pos (by omega), if_neg (by omega), if_pos h]
      · subst h; simp
      · rw [if_neg (by omega), if_neg (by omega), if_neg (by omega)]
    · refine T.exit ?_
      refine TQ.then_x ?_
      refine TQ.then_x ?_
      refine TQ.block_x ?_
      refine TQ.then_n ?_
      refine T.region ?_
      refine TL.move hF rfl rfl ?_
      refine TL.move hF rfl rfl ?_
      refine TL.buildSlice hF rfl (cs := #[rowV n b18]) (e := 42) (fun w => by kernel_rfl) rfl (fun b33 => ?_)
      refine TL.append hF (2 + bs.length) rfl rfl (by rw [show 2 + bs.length = bs.length + 1 + 1 by omega, List.getElem?_cons_succ, List.getElem?_cons_succ]; exact msegs_at rfl) ho (row_own (cs := [rowV n b18]) (e := 42) (by simp)).src rfl rfl (by simp [rowV, Value.oneCell']) (by omega) (by omega) rfl (fun a' cap' seg' ho' => ?_)
      refine TL.assign hF rfl rfl ?_
      refine TL.nil ?_
      refine TQ.block_n ?_
      refine TQ.then_n ?_
      refine T.region ?_
      refine TL.move hF rfl rfl ?_
      refine TL.add hF rfl rfl (by omega) (by omega) rfl ?_
      refine TL.assign hF rfl rfl ?_
      refine TL.nil ?_
      rw [show 2 + bs.length = bs.length + 1 + 1 by omega, List.set_cons_succ, List.set_cons_succ, msegs_setAt rfl]
      refine TQ.pop ?_
      have hrow : rowC n (fun i => if i < j then EU rs k i else false) = rowC n (EU rs bs.length) := rowC_congr (fun i hi => by rw [if_pos (by omega), hbs])
      rw [hrow]
      refine TQ.hperm (msegs n (EU rs) (bs ++ [b18]) ++ seg' :: η) ?_ ?_
      · rw [msegs_snoc, List.append_assoc]; exact List.perm_middle
      refine TQ.round (k + 1, bs ++ [b18], a', cap', seg') ⟨by simp only; omega, by simp [hbs], by simpa using ho'⟩ (by simp only; omega) ⟨rfl, rfl, rfl, rfl, trivial⟩ rfl
  · refine T.exit ?_
    refine TQ.then_x ?_
    refine TQ.then_x ?_
    refine TQ.block_x ?_
    refine TQ.then_n ?_
    refine T.seq ?_
    refine T.seq ?_
    refine T.region ?_
    refine TL.assign hF rfl rfl ?_
    refine TL.nil ?_
    refine TQ.then_n ?_
    refine T.block ?_
    have hkn : k = n := by omega
    subst hkn
    refine T.loop (ι := Nat) (fun v => v ≤ k) (fun v => [(0, .int .i64 (k : Int)), (1, .slice p rs.length c), (5, .slice a k cap), (9, .int .i64 (v : Int))]) (fun v => msegs k (fwM (EU rs) v) bs ++ seg :: η) (fun v => k - v) 0 (Nat.zero_le _) ⟨rfl, rfl, rfl, rfl, trivial⟩ rfl ?_
    rintro via hvia
    refine T.seq ?_
    refine T.seq ?_
    refine T.region ?_
    refine TL.move hF rfl rfl ?_
    refine TL.move hF rfl rfl ?_
    refine TL.bin hF rfl rfl rfl rfl ?_
    refine TL.nil ?_
    refine TQ.then_n ?_
    first | refine T.cond_d rfl (fun ht37 => ?_) (fun ht37 => ?_) | refine T.cond _ rfl (fun ht37 => ?_) (fun ht37 => ?_)
    · refine T.skip ?_
      refine TQ.then_n ?_
      refine T.seq ?_
      refine T.block ?_
      refine T.seq ?_
      refine T.region ?_
      refine TL.assign hF rfl rfl ?_
      refine TL.nil ?_
      refine TQ.then_n ?_
      refine T.block ?_
      refine T.loop (ι := Nat) (fun v => v ≤ k) (fun v => [(0, .int .i64 (k : Int)), (1, .slice p rs.length c), (5, .slice a k cap), (9, .int .i64 (via : Int)), (10, .int .i64 (v : Int))]) (fun v => msegs k (mid (EU rs) via v 0) bs ++ seg :: η) (fun v => k - v) 0 (Nat.zero_le _) ⟨rfl, rfl, rfl, rfl, rfl, trivial⟩ (congrArg (· ++ seg :: η) (msegs_congr (fun i j _ _ => by simp [mid]))) ?_
      rintro q hq
      refine T.seq ?_
      refine T.seq ?_
      refine T.region ?_
      refine TL.move hF rfl rfl ?_
      refine TL.move hF rfl rfl ?_
      refine TL.bin hF rfl rfl rfl rfl ?_
      refine TL.nil ?_
      refine TQ.then_n ?_
      first | refine T.cond_d rfl (fun ht42 => ?_) (fun ht42 => ?_) | refine T.cond _ rfl (fun ht42 => ?_) (fun ht42 => ?_)
      · refine T.skip ?_
        refine TQ.then_n ?_
        refine T.seq ?_
        refine T.block ?_
        refine T.seq ?_
        refine T.region ?_
        refine TL.assign hF rfl rfl ?_
        refine TL.nil ?_
        refine TQ.then_n ?_
        refine T.block ?_
        refine T.loop (ι := Nat) (fun v => v ≤ k) (fun v => [(0, .int .i64 (k : Int)), (1, .slice p rs.length c), (5, .slice a k cap), (9, .int .i64 (via : Int)), (10, .int .i64 (q : Int)), (11, .int .i64 (v : Int))]) (fun v => msegs k (mid (EU rs) via q v) bs ++ seg :: η) (fun v => k - v) 0 (Nat.zero_le _) ⟨rfl, rfl, rfl, rfl, rfl, rfl, trivial⟩ rfl ?_
        rintro j hj
        have hM : Mat S w0 (msegs k (mid (EU rs) via q j) bs ++ seg :: η) a k (mid (EU rs) via q j) := Mat.own hbs ho
        have hA : ∀ i, i < k → At S w0 (msegs k (mid (EU rs) via q j) bs ++ seg :: η) (sAt a (i * 1)) (rowV k (bs.getD i 0)) := fun i hi => by
          rw [Nat.mul_one]; exact (ho.row (by simp)).cell i _ (by simp [List.getD_eq_getElem?_getD, hbs, hi])
        have hX : ∀ i j', i < k → j' < k → At S w0 (msegs k (mid (EU rs) via q j) bs ++ seg :: η) (sAt (some ⟨bs.getD i 0, 0, none⟩) (j' * 1)) (.bool (mid (EU rs) via q j i j')) := fun i j' hi hj' => by
          rw [Nat.mul_one]; exact (row_own (e := 4) (List.mem_append_left _ (msegs_mem (by omega)))).cell j' _ (rowC_get hj')
        have had : ∃ ad, a = some ad ∧ ad.spot = none := osl_ad ho (by omega)
        refine T.seq ?_
        refine T.seq ?_
        refine T.region ?_
        refine TL.move hF rfl rfl ?_
        refine TL.move hF rfl rfl ?_
        refine TL.bin hF rfl rfl rfl rfl ?_
        refine TL.nil ?_
        refine TQ.then_n ?_
        first | refine T.cond_d rfl (fun ht47 => ?_) (fun ht47 => ?_) | refine T.cond _ rfl (fun ht47 => ?_) (fun ht47 => ?_)
        · refine T.skip ?_
          refine TQ.then_n ?_
          refine T.seq ?_
          refine T.block ?_
          have h3 : (mid (EU rs) via q j q j = false ∧ mid (EU rs) via q j q via = false) ∨ (mid (EU rs) via q j q j = false ∧ mid (EU rs) via q j q via = true) ∨ mid (EU rs) via q j q j = true := by cases mid (EU rs) via q j q j <;> cases mid (EU rs) via q j q via <;> simp
          rcases h3 with ⟨hc1, hc2⟩ | ⟨hc1, hc2⟩ | hc1
          · refine T.draw ?_
            refine DR.stepV [_] rfl [(5, _, none)] rfl rfl ⟨⟨rfl, by kernel_rfl⟩, trivial⟩ (fun ext => TL.move hF rfl rfl TL.fin) ?_
            refine DR.stepV [_, _] rfl [(10, _, none)] rfl rfl ⟨⟨rfl, by kernel_rfl⟩, trivial⟩ (fun ext => TL.move hF rfl rfl TL.fin) ?_
            refine DR.stepV [_, _, _] rfl [(50, _, some 0), (51, _, some 1)] rfl rfl ⟨⟨rfl, rfl, rfl⟩, ⟨rfl, rfl, rfl⟩, trivial⟩ (fun ext => TL.indexAddr hF rfl rfl had (by omega) (by omega) rfl TL.fin) ?_
            refine DR.stepV [_, _, _, _] rfl [(52, _, some 2)] rfl rfl ⟨⟨rfl, rfl, rfl⟩, trivial⟩ (fun ext => TL.load hF rfl (hA q (by omega)) rfl TL.fin) ?_
            refine DR.stepV [_, _, _, _, _] rfl [(11, _, none)] rfl rfl ⟨⟨rfl, by kernel_rfl⟩, trivial⟩ (fun ext => TL.move hF rfl rfl TL.fin) ?_
            refine DR.stepV [_, _, _, _, _, _] rfl [(5, _, none)] rfl rfl ⟨⟨rfl, by kernel_rfl⟩, trivial⟩ (fun ext => TL.move hF rfl rfl TL.fin) ?_
            refine DR.stepV [_, _, _, _, _, _, _] rfl [(10, _, none)] rfl rfl ⟨⟨rfl, by kernel_rfl⟩, trivial⟩ (fun ext => TL.move hF rfl rfl TL.fin) ?_
            refine DR.stepV [_, _, _, _, _, _, _, _] rfl [(55, _, some 5), (56, _, some 6)] rfl rfl ⟨⟨rfl, rfl, rfl⟩, ⟨rfl, rfl, rfl⟩, trivial⟩ (fun ext => TL.indexAddr hF rfl rfl had (by omega) (by omega) rfl TL.fin) ?_
            refine DR.stepV [_, _, _, _, _, _, _, _, _] rfl [(57, _, some 7)] rfl rfl ⟨⟨rfl, rfl, rfl⟩, trivial⟩ (fun ext => TL.load hF rfl (hA q (by omega)) rfl TL.fin) ?_
            refine DR.stepV [_, _, _, _, _, _, _, _, _, _] rfl [(11, _, none)] rfl rfl ⟨⟨rfl, by kernel_rfl⟩, trivial⟩ (fun ext => TL.move hF rfl rfl TL.fin) ?_
            refine DR.stepV [_, _, _, _, _, _, _, _, _, _, _] rfl [(58, _, some 8), (59, _, some 9)] rfl rfl ⟨⟨rfl, rfl, rfl⟩, ⟨rfl, rfl, rfl⟩, trivial⟩ (fun ext => TL.indexAddr hF rfl rfl ⟨_, rfl, rfl⟩ (by omega) (by omega) rfl TL.fin) ?_
            refine DR.stepV [_, _, _, _, _, _, _, _, _, _, _, _] rfl [(60, _, some 10)] rfl rfl ⟨⟨rfl, rfl, rfl⟩, trivial⟩ (fun ext => TL.load hF rfl (hX q j (by omega) (by omega)) rfl TL.fin) ?_
            refine DR.stepV [_, _, _, _, _, _, _, _, _, _, _, _, _] rfl [(61, _, some 11)] rfl rfl ⟨⟨rfl, rfl, rfl⟩, trivial⟩ (fun ext => TL.move hF rfl rfl TL.fin) ?_
            refine DR.stepV [_, _, _, _, _, _, _, _, _, _, _, _, _, _] rfl [(5, _, none), (62, _, some 12)] rfl rfl ⟨⟨rfl, by kernel_rfl⟩, ⟨rfl, rfl, rfl⟩, trivial⟩ (fun ext => TL.on rfl rfl rfl hc1 <| TL.move hF rfl rfl TL.fin) ?_
            refine DR.stepV [_, _, _, _, _, _, _, _, _, _, _, _, _, _, _] rfl [(10, _, none), (62, _, some 12)] rfl rfl ⟨⟨rfl, by kernel_rfl⟩, ⟨rfl, rfl, rfl⟩, trivial⟩ (fun ext => TL.on rfl rfl rfl hc1 <| TL.move hF rfl rfl TL.fin) ?_
            refine DR.stepV [_, _, _, _, _, _, _, _, _, _, _, _, _, _, _, _] rfl [(63, _, some 13), (64, _, some 14), (62, _, some 12)] rfl rfl ⟨⟨rfl, rfl, rfl⟩, ⟨rfl, rfl, rfl⟩, ⟨rfl, rfl, rfl⟩, trivial⟩ (fun ext => TL.on rfl rfl rfl hc1 <| TL.indexAddr hF rfl rfl had (by omega) (by omega) rfl TL.fin) ?_
            refine DR.stepV [_, _, _, _, _, _, _, _, _, _, _, _, _, _, _, _, _] rfl [(65, _, some 15), (62, _, some 12)] rfl rfl ⟨⟨rfl, rfl, rfl⟩, ⟨rfl, rfl, rfl⟩, trivial⟩ (fun ext => TL.on rfl rfl rfl hc1 <| TL.load hF rfl (hA q (by omega)) rfl TL.fin) ?_
            refine DR.stepV [_, _, _, _, _, _, _, _, _, _, _, _, _, _, _, _, _, _] rfl [(9, _, none), (62, _, some 12)] rfl rfl ⟨⟨rfl, by kernel_rfl⟩, ⟨rfl, rfl, rfl⟩, trivial⟩ (fun ext => TL.on rfl rfl rfl hc1 <| TL.move hF rfl rfl TL.fin) ?_
            refine DR.stepV [_, _, _, _, _, _, _, _, _, _, _, _, _, _, _, _, _, _, _] rfl [(66, _, some 16), (67, _, some 17), (62, _, some 12)] rfl rfl ⟨⟨rfl, rfl, rfl⟩, ⟨rfl, rfl, rfl⟩, ⟨rfl, rfl, rfl⟩, trivial⟩ (fun ext => TL.on rfl rfl rfl hc1 <| TL.indexAddr hF rfl rfl ⟨_, rfl, rfl⟩ (by omega) (by omega) rfl TL.fin) ?_
            refine DR.stepV [_, _, _, _, _, _, _, _, _, _, _, _, _, _, _, _, _, _, _, _] rfl [(68, _, some 18), (62, _, some 12)] rfl rfl ⟨⟨rfl, rfl, rfl⟩, ⟨rfl, rfl, rfl⟩, trivial⟩ (fun ext => TL.on rfl rfl rfl hc1 <| TL.load hF rfl (hX q via (by omega) (by omega)) rfl TL.fin) ?_
            refine DR.stepV [_, _, _, _, _, _, _, _, _, _, _, _, _, _, _, _, _, _, _, _, _] rfl [(69, _, some 19), (62, _, some 12)] rfl rfl ⟨⟨rfl, rfl, rfl⟩, ⟨rfl, rfl, rfl⟩, trivial⟩ (fun ext => TL.on rfl rfl rfl hc1 <| TL.move hF rfl rfl TL.fin) ?_
            refine DR.stepV [_, _, _, _, _, _, _, _, _, _, _, _, _, _, _, _, _, _, _, _, _, _] rfl [(5, _, none), (70, _, some 20)] rfl rfl ⟨⟨rfl, by kernel_rfl⟩, ⟨rfl, rfl, rfl⟩, trivial⟩ (fun ext => TL.off hF rfl rfl rfl hc2 rfl TL.fin) ?_
            refine DR.stepV [_, _, _, _, _, _, _, _, _, _, _, _, _, _, _, _, _, _, _, _, _, _, _] rfl [(9, _, none), (70, _, some 20)] rfl rfl ⟨⟨rfl, by kernel_rfl⟩, ⟨rfl, rfl, rfl⟩, trivial⟩ (fun ext => TL.off hF rfl rfl rfl hc2 rfl TL.fin) ?_
            refine DR.stepV [_, _, _, _, _, _, _, _, _, _, _, _, _, _, _, _, _, _, _, _, _, _, _, _] rfl [(71, _, some 21), (72, _, some 22), (70, _, some 20)] rfl rfl ⟨⟨rfl, rfl, rfl⟩, ⟨rfl, rfl, rfl⟩, ⟨rfl, rfl, rfl⟩, trivial⟩ (fun ext => TL.off hF rfl rfl rfl hc2 rfl TL.fin) ?_
            refine DR.stepV [_, _, _, _, _, _, _, _, _, _, _, _, _, _, _, _, _, _, _, _, _, _, _, _, _] rfl [(73, _, some 23), (70, _, some 20)] rfl rfl ⟨⟨rfl, rfl, rfl⟩, ⟨rfl, rfl, rfl⟩, trivial⟩ (fun ext => TL.off hF rfl rfl rfl hc2 rfl TL.fin) ?_
            refine DR.stepV [_, _, _, _, _, _, _, _, _, _, _, _, _, _, _, _, _, _, _, _, _, _, _, _, _, _] rfl [(11, _, none), (70, _, some 20)] rfl rfl ⟨⟨rfl, by kernel_rfl⟩, ⟨rfl, rfl, rfl⟩, trivial⟩ (fun ext => TL.off hF rfl rfl rfl hc2 rfl TL.fin) ?_
            refine DR.stepV [_, _, _, _, _, _, _, _, _, _, _, _, _, _, _, _, _, _, _, _, _, _, _, _, _, _, _] rfl [(74, _, some 24), (75, _, some 25), (70, _, some 20)] rfl rfl ⟨⟨rfl, rfl, rfl⟩, ⟨rfl, rfl, rfl⟩, ⟨rfl, rfl, rfl⟩, trivial⟩ (fun ext => TL.off hF rfl rfl rfl hc2 rfl TL.fin) ?_
            refine DR.stepV [_, _, _, _, _, _, _, _, _, _, _, _, _, _, _, _, _, _, _, _, _, _, _, _, _, _, _, _] rfl [(76, _, some 26), (70, _, some 20)] rfl rfl ⟨⟨rfl, rfl, rfl⟩, ⟨rfl, rfl, rfl⟩, trivial⟩ (fun ext => TL.off hF rfl rfl rfl hc2 rfl TL.fin) ?_
            refine DR.stepV [_, _, _, _, _, _, _, _, _, _, _, _, _, _, _, _, _, _, _, _, _, _, _, _, _, _, _, _, _] rfl [(70, _, some 20), (77, _, some 27), (62, _, some 12)] rfl rfl ⟨⟨rfl, rfl, rfl⟩, ⟨rfl, rfl, rfl⟩, ⟨rfl, rfl, rfl⟩, trivial⟩ (fun ext => TL.on rfl rfl rfl hc1 <| TL.pickF hF rfl hc2 rfl rfl TL.fin) ?_
            refine DR.stepV [_, _, _, _, _, _, _, _, _, _, _, _, _, _, _, _, _, _, _, _, _, _, _, _, _, _, _, _, _, _] rfl [(62, _, some 12), (78, _, some 28)] rfl rfl ⟨⟨rfl, rfl, rfl⟩, ⟨rfl, rfl, rfl⟩, trivial⟩ (fun ext => TL.pickF hF rfl hc1 rfl rfl TL.fin) ?_
            refine DR.done [(79, _), (78, _), (77, _), (76, _), (75, _), (74, _), (73, _), (72, _), (71, _), (70, _), (69, _), (68, _), (67, _), (66, _), (65, _), (64, _), (63, _), (62, _), (61, _), (60, _), (59, _), (58, _), (57, _), (56, _), (55, _), (54, _), (53, _), (52, _), (51, _), (50, _)] [_, _] mixed (by kernel_rfl) (by kernel_rfl) (by kernel_rfl) rfl rfl ?_
            refine TL.indexAddr hF rfl rfl ⟨_, rfl, rfl⟩ (by omega) (by omega) rfl ?_
            refine TL.storeI hF q rfl rfl (msegs_get (by omega)) rfl (by simp [rowC_len]; omega) ?_
            refine TL.nil ?_
            refine TQ.block_n ?_
            refine TQ.then_n ?_
            refine T.region ?_
            refine TL.move hF rfl rfl ?_
            refine TL.add hF rfl rfl (by omega) (by omega) rfl ?_
            refine TL.assign hF rfl rfl ?_
            refine TL.nil ?_
            refine TQ.round (j + 1) (by omega) (by omega) ⟨rfl, rfl, rfl, rfl, rfl, rfl, trivial⟩ ?_
            exact msegs_set (M' := mid (EU rs) via q (j + 1)) (by omega) (fun i hi => by
              show _ = if i = 0 + (j : Int).toNat * 1 then _ else _
              rw [show 0 + (j : Int).toNat * 1 = j by simp]
              by_cases h : i = j
              · subst h; rw [if_pos rfl, mid_here]; simp [*]
              · rw [if_neg h, mid_next (by omega)]) (fun x i hx hne hi => mid_next (by omega))
          · refine T.draw ?_
            refine DR.stepV [_] rfl [(5, _, none)] rfl rfl ⟨⟨rfl, by kernel_rfl⟩, trivial⟩ (fun ext => TL.move hF rfl rfl TL.fin) ?_
            refine DR.stepV [_, _] rfl [(10, _, none)] rfl rfl ⟨⟨rfl, by kernel_rfl⟩, trivial⟩ (fun ext => TL.move hF rfl rfl TL.fin) ?_
            refine DR.stepV [_, _, _] rfl [(50, _, some 0), (51, _, some 1)] rfl rfl ⟨⟨rfl, rfl, rfl⟩, ⟨rfl, rfl, rfl⟩, trivial⟩ (fun ext => TL.indexAddr hF rfl rfl had (by omega) (by omega) rfl TL.fin) ?_
            refine DR.stepV [_, _, _, _] rfl [(52, _, some 2)] rfl rfl ⟨⟨rfl, rfl, rfl⟩, trivial⟩ (fun ext => TL.load hF rfl (hA q (by omega)) rfl TL.fin) ?_
            refine DR.stepV [_, _, _, _, _] rfl [(11, _, none)] rfl rfl ⟨⟨rfl, by kernel_rfl⟩, trivial⟩ (fun ext => TL.move hF rfl rfl TL.fin) ?_
            refine DR.stepV [_, _, _, _, _, _] rfl [(5, _, none)] rfl rfl ⟨⟨rfl, by kernel_rfl⟩, trivial⟩ (fun ext => TL.move hF rfl rfl TL.fin) ?_
            refine DR.stepV [_, _, _, _, _, _, _] rfl [(10, _, none)] rfl rfl ⟨⟨rfl, by kernel_rfl⟩, trivial⟩ (fun ext => TL.move hF rfl rfl TL.fin) ?_
            refine DR.stepV [_, _, _, _, _, _, _, _] rfl [(55, _, some 5), (56, _, some 6)] rfl rfl ⟨⟨rfl, rfl, rfl⟩, ⟨rfl, rfl, rfl⟩, trivial⟩ (fun ext => TL.indexAddr hF rfl rfl had (by omega) (by omega) rfl TL.fin) ?_
            refine DR.stepV [_, _, _, _, _, _, _, _, _] rfl [(57, _, some 7)] rfl rfl ⟨⟨rfl, rfl, rfl⟩, trivial⟩ (fun ext => TL.load hF rfl (hA q (by omega)) rfl TL.fin) ?_
            refine DR.stepV [_, _, _, _, _, _, _, _, _, _] rfl [(11, _, none)] rfl rfl ⟨⟨rfl, by kernel_rfl⟩, trivial⟩ (fun ext => TL.move hF rfl rfl TL.fin) ?_
            refine DR.stepV [_, _, _, _, _, _, _, _, _, _, _] rfl [(58, _, some 8), (59, _, some 9)] rfl rfl ⟨⟨rfl, rfl, rfl⟩, ⟨rfl, rfl, rfl⟩, trivial⟩ (fun ext => TL.indexAddr hF rfl rfl ⟨_, rfl, rfl⟩ (by omega) (by omega) rfl TL.fin) ?_
            refine DR.stepV [_, _, _, _, _, _, _, _, _, _, _, _] rfl [(60, _, some 10)] rfl rfl ⟨⟨rfl, rfl, rfl⟩, trivial⟩ (fun ext => TL.load hF rfl (hX q j (by omega) (by omega)) rfl TL.fin) ?_
            refine DR.stepV [_, _, _, _, _, _, _, _, _, _, _, _, _] rfl [(61, _, some 11)] rfl rfl ⟨⟨rfl, rfl, rfl⟩, trivial⟩ (fun ext => TL.move hF rfl rfl TL.fin) ?_
            refine DR.stepV [_, _, _, _, _, _, _, _, _, _, _, _, _, _] rfl [(5, _, none), (62, _, some 12)] rfl rfl ⟨⟨rfl, by kernel_rfl⟩, ⟨rfl, rfl, rfl⟩, trivial⟩ (fun ext => TL.on rfl rfl rfl hc1 <| TL.move hF rfl rfl TL.fin) ?_
            refine DR.stepV [_, _, _, _, _, _, _, _, _, _, _, _, _, _, _] rfl [(10, _, none), (62, _, some 12)] rfl rfl ⟨⟨rfl, by kernel_rfl⟩, ⟨rfl, rfl, rfl⟩, trivial⟩ (fun ext => TL.on rfl rfl rfl hc1 <| TL.move hF rfl rfl TL.fin) ?_
            refine DR.stepV [_, _, _, _, _, _, _, _, _, _, _, _, _, _, _, _] rfl [(63, _, some 13), (64, _, some 14), (62, _, some 12)] rfl rfl ⟨⟨rfl, rfl, rfl⟩, ⟨rfl, rfl, rfl⟩, ⟨rfl, rfl, rfl⟩, trivial⟩ (fun ext => TL.on rfl rfl rfl hc1 <| TL.indexAddr hF rfl rfl had (by omega) (by omega) rfl TL.fin) ?_
            refine DR.stepV [_, _, _, _, _, _, _, _, _, _, _, _, _, _, _, _, _] rfl [(65, _, some 15), (62, _, some 12)] rfl rfl ⟨⟨rfl, rfl, rfl⟩, ⟨rfl, rfl, rfl⟩, trivial⟩ (fun ext => TL.on rfl rfl rfl hc1 <| TL.load hF rfl (hA q (by omega)) rfl TL.fin) ?_
            refine DR.stepV [_, _, _, _, _, _, _, _, _, _, _, _, _, _, _, _, _, _] rfl [(9, _, none), (62, _, some 12)] rfl rfl ⟨⟨rfl, by kernel_rfl⟩, ⟨rfl, rfl, rfl⟩, trivial⟩ (fun ext => TL.on rfl rfl rfl hc1 <| TL.move hF rfl rfl TL.fin) ?_
            refine DR.stepV [_, _, _, _, _, _, _, _, _, _, _, _, _, _, _, _, _, _, _] rfl [(66, _, some 16), (67, _, some 17), (62, _, some 12)] rfl rfl ⟨⟨rfl, rfl, rfl⟩, ⟨rfl, rfl, rfl⟩, ⟨rfl, rfl, rfl⟩, trivial⟩ (fun ext => TL.on rfl rfl rfl hc1 <| TL.indexAddr hF rfl rfl ⟨_, rfl, rfl⟩ (by omega) (by omega) rfl TL.fin) ?_
            refine DR.stepV [_, _, _, _, _, _, _, _, _, _, _, _, _, _, _, _, _, _, _, _] rfl [(68, _, some 18), (62, _, some 12)] rfl rfl ⟨⟨rfl, rfl, rfl⟩, ⟨rfl, rfl, rfl⟩, trivial⟩ (fun ext => TL.on rfl rfl rfl hc1 <| TL.load hF rfl (hX q via (by omega) (by omega)) rfl TL.fin) ?_
            refine DR.stepV [_, _, _, _, _, _, _, _, _, _, _, _, _, _, _, _, _, _, _, _, _] rfl [(69, _, some 19), (62, _, some 12)] rfl rfl ⟨⟨rfl, rfl, rfl⟩, ⟨rfl, rfl, rfl⟩, trivial⟩ (fun ext => TL.on rfl rfl rfl hc1 <| TL.move hF rfl rfl TL.fin) ?_
            refine DR.stepV [_, _, _, _, _, _, _, _, _, _, _, _, _, _, _, _, _, _, _, _, _, _] rfl [(5, _, none), (70, _, some 20)] rfl rfl ⟨⟨rfl, by kernel_rfl⟩, ⟨rfl, rfl, rfl⟩, trivial⟩ (fun ext => TL.on rfl rfl rfl hc2 <| TL.move hF rfl rfl TL.fin) ?_
            refine DR.stepV [_, _, _, _, _, _, _, _, _, _, _, _, _, _, _, _, _, _, _, _, _, _, _] rfl [(9, _, none), (70, _, some 20)] rfl rfl ⟨⟨rfl, by kernel_rfl⟩, ⟨rfl, rfl, rfl⟩, trivial⟩ (fun ext => TL.on rfl rfl rfl hc2 <| TL.move hF rfl rfl TL.fin) ?_
            refine DR.stepV [_, _, _, _, _, _, _, _, _, _, _, _, _, _, _, _, _, _, _, _, _, _, _, _] rfl [(71, _, some 21), (72, _, some 22), (70, _, some 20)] rfl rfl ⟨⟨rfl, rfl, rfl⟩, ⟨rfl, rfl, rfl⟩, ⟨rfl, rfl, rfl⟩, trivial⟩ (fun ext => TL.on rfl rfl rfl hc2 <| TL.indexAddr hF rfl rfl had (by omega) (by omega) rfl TL.fin) ?_
            refine DR.stepV [_, _, _, _, _, _, _, _, _, _, _, _, _, _, _, _, _, _, _, _, _, _, _, _, _] rfl [(73, _, some 23), (70, _, some 20)] rfl rfl ⟨⟨rfl, rfl, rfl⟩, ⟨rfl, rfl, rfl⟩, trivial⟩ (fun ext => TL.on rfl rfl rfl hc2 <| TL.load hF rfl (hA via (by omega)) rfl TL.fin) ?_
            refine DR.stepV [_, _, _, _, _, _, _, _, _, _, _, _, _, _, _, _, _, _, _, _, _, _, _, _, _, _] rfl [(11, _, none), (70, _, some 20)] rfl rfl ⟨⟨rfl, by kernel_rfl⟩, ⟨rfl, rfl, rfl⟩, trivial⟩ (fun ext => TL.on rfl rfl rfl hc2 <| TL.move hF rfl rfl TL.fin) ?_
            refine DR.stepV [_, _, _, _, _, _, _, _, _, _, _, _, _, _, _, _, _, _, _, _, _, _, _, _, _, _, _] rfl [(74, _, some 24), (75, _, some 25), (70, _, some 20)] rfl rfl ⟨⟨rfl, rfl, rfl⟩, ⟨rfl, rfl, rfl⟩, ⟨rfl, rfl, rfl⟩, trivial⟩ (fun ext => TL.on rfl rfl rfl hc2 <| TL.indexAddr hF rfl rfl ⟨_, rfl, rfl⟩ (by omega) (by omega) rfl TL.fin) ?_
            refine DR.stepV [_, _, _, _, _, _, _, _, _, _, _, _, _, _, _, _, _, _, _, _, _, _, _, _, _, _, _, _] rfl [(76, _, some 26), (70, _, some 20)] rfl rfl ⟨⟨rfl, rfl, rfl⟩, ⟨rfl, rfl, rfl⟩, trivial⟩ (fun ext => TL.on rfl rfl rfl hc2 <| TL.load hF rfl (hX via j (by omega) (by omega)) rfl TL.fin) ?_
            refine DR.stepV [_, _, _, _, _, _, _, _, _, _, _, _, _, _, _, _, _, _, _, _, _, _, _, _, _, _, _, _, _] rfl [(70, _, some 20), (77, _, some 27), (62, _, some 12)] rfl rfl ⟨⟨rfl, rfl, rfl⟩, ⟨rfl, rfl, rfl⟩, ⟨rfl, rfl, rfl⟩, trivial⟩ (fun ext => TL.on rfl rfl rfl hc1 <| TL.pickT hF rfl hc2 rfl rfl TL.fin) ?_
            refine DR.stepV [_, _, _, _, _, _, _, _, _, _, _, _, _, _, _, _, _, _, _, _, _, _, _, _, _, _, _, _, _, _] rfl [(62, _, some 12), (78, _, some 28)] rfl rfl ⟨⟨rfl, rfl, rfl⟩, ⟨rfl, rfl, rfl⟩, trivial⟩ (fun ext => TL.pickF hF rfl hc1 rfl rfl TL.fin) ?_
            refine DR.done [(79, _), (78, _), (77, _), (76, _), (75, _), (74, _), (73, _), (72, _), (71, _), (70, _), (69, _), (68, _), (67, _), (66, _), (65, _), (64, _), (63, _), (62, _), (61, _), (60, _), (59, _), (58, _), (57, _), (56, _), (55, _), (54, _), (53, _), (52, _), (51, _), (50, _)] [_, _] mixed (by kernel_rfl) (by kernel_rfl) (by kernel_rfl) rfl rfl ?_
            refine TL.indexAddr hF rfl rfl ⟨_, rfl, rfl⟩ (by omega) (by omega) rfl ?_
            refine TL.storeI hF q rfl rfl (msegs_get (by omega)) rfl (by simp [rowC_len]; omega) ?_
            refine TL.nil ?_
            refine TQ.block_n ?_
            refine TQ.then_n ?_
            refine T.region ?_
            refine TL.move hF rfl rfl ?_
            refine TL.add hF rfl rfl (by omega) (by omega) rfl ?_
            refine TL.assign hF rfl rfl ?_
            refine TL.nil ?_
            refine TQ.round (j + 1) (by omega) (by omega) ⟨rfl, rfl, rfl, rfl, rfl, rfl, trivial⟩ ?_
            exact msegs_set (M' := mid (EU rs) via q (j + 1)) (by omega) (fun i hi => by
              show _ = if i = 0 + (j : Int).toNat * 1 then _ else _
              rw [show 0 + (j : Int).toNat * 1 = j by simp]
              by_cases h : i = j
              · subst h; rw [if_pos rfl, mid_here]; simp [*]
              · rw [if_neg h, mid_next (by omega)]) (fun x i hx hne hi => mid_next (by omega))
          · refine T.draw ?_
            refine DR.stepV [_] rfl [(5, _, none)] rfl rfl ⟨⟨rfl, by kernel_rfl⟩, trivial⟩ (fun ext => TL.move hF rfl rfl TL.fin) ?_
            refine DR.stepV [_, _] rfl [(10, _, none)] rfl rfl ⟨⟨rfl, by kernel_rfl⟩, trivial⟩ (fun ext => TL.move hF rfl rfl TL.fin) ?_
            refine DR.stepV [_, _, _] rfl [(50, _, some 0), (51, _, some 1)] rfl rfl ⟨⟨rfl, rfl, rfl⟩, ⟨rfl, rfl, rfl⟩, trivial⟩ (fun ext => TL.indexAddr hF rfl rfl had (by omega) (by omega) rfl TL.fin) ?_
            refine DR.stepV [_, _, _, _] rfl [(52, _, some 2)] rfl rfl ⟨⟨rfl, rfl, rfl⟩, trivial⟩ (fun ext => TL.load hF rfl (hA q (by omega)) rfl TL.fin) ?_
            refine DR.stepV [_, _, _, _, _] rfl [(11, _, none)] rfl rfl ⟨⟨rfl, by kernel_rfl⟩, trivial⟩ (fun ext => TL.move hF rfl rfl TL.fin) ?_
            refine DR.stepV [_, _, _, _, _, _] rfl [(5, _, none)] rfl rfl ⟨⟨rfl, by kernel_rfl⟩, trivial⟩ (fun ext => TL.move hF rfl rfl TL.fin) ?_
            refine DR.stepV [_, _, _, _, _, _, _] rfl [(10, _, none)] rfl rfl ⟨⟨rfl, by kernel_rfl⟩, trivial⟩ (fun ext => TL.move hF rfl rfl TL.fin) ?_
            refine DR.stepV [_, _, _, _, _, _, _, _] rfl [(55, _, some 5), (56, _, some 6)] rfl rfl ⟨⟨rfl, rfl, rfl⟩, ⟨rfl, rfl, rfl⟩, trivial⟩ (fun ext => TL.indexAddr hF rfl rfl had (by omega) (by omega) rfl TL.fin) ?_
            refine DR.stepV [_, _, _, _, _, _, _, _, _] rfl [(57, _, some 7)] rfl rfl ⟨⟨rfl, rfl, rfl⟩, trivial⟩ (fun ext => TL.load hF rfl (hA q (by omega)) rfl TL.fin) ?_
            refine DR.stepV [_, _, _, _, _, _, _, _, _, _] rfl [(11, _, none)] rfl rfl ⟨⟨rfl, by kernel_rfl⟩, trivial⟩ (fun ext => TL.move hF rfl rfl TL.fin) ?_
            refine DR.stepV [_, _, _, _, _, _, _, _, _, _, _] rfl [(58, _, some 8), (59, _, some 9)] rfl rfl ⟨⟨rfl, rfl, rfl⟩, ⟨rfl, rfl, rfl⟩, trivial⟩ (fun ext => TL.indexAddr hF rfl rfl ⟨_, rfl, rfl⟩ (by omega) (by omega) rfl TL.fin) ?_
            refine DR.stepV [_, _, _, _, _, _, _, _, _, _, _, _] rfl [(60, _, some 10)] rfl rfl ⟨⟨rfl, rfl, rfl⟩, trivial⟩ (fun ext => TL.load hF rfl (hX q j (by omega) (by omega)) rfl TL.fin) ?_
            refine DR.stepV [_, _, _, _, _, _, _, _, _, _, _, _, _] rfl [(61, _, some 11)] rfl rfl ⟨⟨rfl, rfl, rfl⟩, trivial⟩ (fun ext => TL.move hF rfl rfl TL.fin) ?_
            refine DR.stepV [_, _, _, _, _, _, _, _, _, _, _, _, _, _] rfl [(5, _, none), (62, _, some 12)] rfl rfl ⟨⟨rfl, by kernel_rfl⟩, ⟨rfl, rfl, rfl⟩, trivial⟩ (fun ext => TL.off hF rfl rfl rfl hc1 rfl TL.fin) ?_
            refine DR.stepV [_, _, _, _, _, _, _, _, _, _, _, _, _, _, _] rfl [(10, _, none), (62, _, some 12)] rfl rfl ⟨⟨rfl, by kernel_rfl⟩, ⟨rfl, rfl, rfl⟩, trivial⟩ (fun ext => TL.off hF rfl rfl rfl hc1 rfl TL.fin) ?_
            refine DR.stepV [_, _, _, _, _, _, _, _, _, _, _, _, _, _, _, _] rfl [(63, _, some 13), (64, _, some 14), (62, _, some 12)] rfl rfl ⟨⟨rfl, rfl, rfl⟩, ⟨rfl, rfl, rfl⟩, ⟨rfl, rfl, rfl⟩, trivial⟩ (fun ext => TL.off hF rfl rfl rfl hc1 rfl TL.fin) ?_
            refine DR.stepV [_, _, _, _, _, _, _, _, _, _, _, _, _, _, _, _, _] rfl [(65, _, some 15), (62, _, some 12)] rfl rfl ⟨⟨rfl, rfl, rfl⟩, ⟨rfl, rfl, rfl⟩, trivial⟩ (fun ext => TL.off hF rfl rfl rfl hc1 rfl TL.fin) ?_
            refine DR.stepV [_, _, _, _, _, _, _, _, _, _, _, _, _, _, _, _, _, _] rfl [(9, _, none), (62, _, some 12)] rfl rfl ⟨⟨rfl, by kernel_rfl⟩, ⟨rfl, rfl, rfl⟩, trivial⟩ (fun ext => TL.off hF rfl rfl rfl hc1 rfl TL.fin) ?_
            refine DR.stepV [_, _, _, _, _, _, _, _, _, _, _, _, _, _, _, _, _, _, _] rfl [(66, _, some 16), (67, _, some 17), (62, _, some 12)] rfl rfl ⟨⟨rfl, rfl, rfl⟩, ⟨rfl, rfl, rfl⟩, ⟨rfl, rfl, rfl⟩, trivial⟩ (fun ext => TL.off hF rfl rfl rfl hc1 rfl TL.fin) ?_
            refine DR.stepV [_, _, _, _, _, _, _, _, _, _, _, _, _, _, _, _, _, _, _, _] rfl [(68, _, some 18), (62, _, some 12)] rfl rfl ⟨⟨rfl, rfl, rfl⟩, ⟨rfl, rfl, rfl⟩, trivial⟩ (fun ext => TL.off hF rfl rfl rfl hc1 rfl TL.fin) ?_
            refine DR.stepV [_, _, _, _, _, _, _, _, _, _, _, _, _, _, _, _, _, _, _, _, _] rfl [(69, _, some 19), (62, _, some 12)] rfl rfl ⟨⟨rfl, rfl, rfl⟩, ⟨rfl, rfl, rfl⟩, trivial⟩ (fun ext => TL.off hF rfl rfl rfl hc1 rfl TL.fin) ?_
            refine DR.stepV [_, _, _, _, _, _, _, _, _, _, _, _, _, _, _, _, _, _, _, _, _, _] rfl [(5, _, none), (70, _, some 20)] rfl rfl ⟨⟨rfl, by kernel_rfl⟩, ⟨rfl, rfl, rfl⟩, trivial⟩ (fun ext => TL.offU hF rfl rfl rfl rfl TL.fin) ?_
            refine DR.stepV [_, _, _, _, _, _, _, _, _, _, _, _, _, _, _, _, _, _, _, _, _, _, _] rfl [(9, _, none), (70, _, some 20)] rfl rfl ⟨⟨rfl, by kernel_rfl⟩, ⟨rfl, rfl, rfl⟩, trivial⟩ (fun ext => TL.offU hF rfl rfl rfl rfl TL.fin) ?_
            refine DR.stepV [_, _, _, _, _, _, _, _, _, _, _, _, _, _, _, _, _, _, _, _, _, _, _, _] rfl [(71, _, some 21), (72, _, some 22), (70, _, some 20)] rfl rfl ⟨⟨rfl, rfl, rfl⟩, ⟨rfl, rfl, rfl⟩, ⟨rfl, rfl, rfl⟩, trivial⟩ (fun ext => TL.offU hF rfl rfl rfl rfl TL.fin) ?_
            refine DR.stepV [_, _, _, _, _, _, _, _, _, _, _, _, _, _, _, _, _, _, _, _, _, _, _, _, _] rfl [(73, _, some 23), (70, _, some 20)] rfl rfl ⟨⟨rfl, rfl, rfl⟩, ⟨rfl, rfl, rfl⟩, trivial⟩ (fun ext => TL.offU hF rfl rfl rfl rfl TL.fin) ?_
            refine DR.stepV [_, _, _, _, _, _, _, _, _, _, _, _, _, _, _, _, _, _, _, _, _, _, _, _, _, _] rfl [(11, _, none), (70, _, some 20)] rfl rfl ⟨⟨rfl, by kernel_rfl⟩, ⟨rfl, rfl, rfl⟩, trivial⟩ (fun ext => TL.offU hF rfl rfl rfl rfl TL.fin) ?_
            refine DR.stepV [_, _, _, _, _, _, _, _, _, _, _, _, _, _, _, _, _, _, _, _, _, _, _, _, _, _, _] rfl [(74, _, some 24), (75, _, some 25), (70, _, some 20)] rfl rfl ⟨⟨rfl, rfl, rfl⟩, ⟨rfl, rfl, rfl⟩, ⟨rfl, rfl, rfl⟩, trivial⟩ (fun ext => TL.offU hF rfl rfl rfl rfl TL.fin) ?_
            refine DR.stepV [_, _, _, _, _, _, _, _, _, _, _, _, _, _, _, _, _, _, _, _, _, _, _, _, _, _, _, _] rfl [(76, _, some 26), (70, _, some 20)] rfl rfl ⟨⟨rfl, rfl, rfl⟩, ⟨rfl, rfl, rfl⟩, trivial⟩ (fun ext => TL.offU hF rfl rfl rfl rfl TL.fin) ?_
            refine DR.stepV [_, _, _, _, _, _, _, _, _, _, _, _, _, _, _, _, _, _, _, _, _, _, _, _, _, _, _, _, _] rfl [(70, _, some 20), (77, _, some 27), (62, _, some 12)] rfl rfl ⟨⟨rfl, rfl, rfl⟩, ⟨rfl, rfl, rfl⟩, ⟨rfl, rfl, rfl⟩, trivial⟩ (fun ext => TL.off hF rfl rfl rfl hc1 rfl TL.fin) ?_
            refine DR.stepV [_, _, _, _, _, _, _, _, _, _, _, _, _, _, _, _, _, _, _, _, _, _, _, _, _, _, _, _, _, _] rfl [(62, _, some 12), (78, _, some 28)] rfl rfl ⟨⟨rfl, rfl, rfl⟩, ⟨rfl, rfl, rfl⟩, trivial⟩ (fun ext => TL.pickT hF rfl hc1 rfl rfl TL.fin) ?_
            refine DR.done [(79, _), (78, _), (77, _), (76, _), (75, _), (74, _), (73, _), (72, _), (71, _), (70, _), (69, _), (68, _), (67, _), (66, _), (65, _), (64, _), (63, _), (62, _), (61, _), (60, _), (59, _), (58, _), (57, _), (56, _), (55, _), (54, _), (53, _), (52, _), (51, _), (50, _)] [_, _] mixed (by kernel_rfl) (by kernel_rfl) (by kernel_rfl) rfl rfl ?_
            refine TL.indexAddr hF rfl rfl ⟨_, rfl, rfl⟩ (by omega) (by omega) rfl ?_
            refine TL.storeI hF q rfl rfl (msegs_get (by omega)) rfl (by simp [rowC_len]; omega) ?_
            refine TL.nil ?_
            refine TQ.block_n ?_
            refine TQ.then_n ?_
            refine T.region ?_
            refine TL.move hF rfl rfl ?_
            refine TL.add hF rfl rfl (by omega) (by omega) rfl ?_
            refine TL.assign hF rfl rfl ?_
            refine TL.nil ?_
            refine TQ.round (j + 1) (by omega) (by omega) ⟨rfl, rfl, rfl, rfl, rfl, rfl, trivial⟩ ?_
            exact msegs_set (M' := mid (EU rs) via q (j + 1)) (by omega) (fun i hi => by
              show _ = if i = 0 + (j : Int).toNat * 1 then _ else _
              rw [show 0 + (j : Int).toNat * 1 = j by simp]
              by_cases h : i = j
              · subst h; rw [if_pos rfl, mid_here]; simp [*]
              · rw [if_neg h, mid_next (by omega)]) (fun x i hx hne hi => mid_next (by omega))
        · refine T.exit ?_
          refine TQ.then_x ?_
          refine TQ.then_x ?_
          refine TQ.block_x ?_
          refine TQ.block_n ?_
          refine TQ.then_n ?_
          refine T.region ?_
          refine TL.move hF rfl rfl ?_
          refine TL.add hF rfl rfl (by omega) (by omega) rfl ?_
          refine TL.assign hF rfl rfl ?_
          refine TL.nil ?_
          refine TQ.round (q + 1) (by omega) (by omega) ⟨rfl, rfl, rfl, rfl, rfl, trivial⟩ (congrArg (· ++ seg :: η) (msegs_congr (fun x y hx hy => by rw [← mid_row (n := k) hy, show j = k by omega])))
      · refine T.exit ?_
        refine TQ.then_x ?_
        refine TQ.then_x ?_
        refine TQ.block_x ?_
        refine TQ.block_n ?_
        refine TQ.then_n ?_
        refine T.region ?_
        refine TL.move hF rfl rfl ?_
        refine TL.add hF rfl rfl (by omega) (by omega) rfl ?_
        refine TL.assign hF rfl rfl ?_
        refine TL.nil ?_
        refine TQ.round (via + 1) (by omega) (by omega) ⟨rfl, rfl, rfl, rfl, trivial⟩ (congrArg (· ++ seg :: η) (msegs_congr (fun x y hx hy => by rw [show q = k by omega, mid_all (by omega)])))
    · refine T.exit ?_
      refine TQ.then_x ?_
      refine TQ.then_x ?_
      refine TQ.block_x ?_
      refine TQ.then_n ?_
      refine T.seq ?_
      refine T.region ?_
      refine TL.move hF rfl rfl ?_
      refine TL.assign hF rfl rfl ?_
      refine TL.nil ?_
      refine TQ.then_n ?_
      refine T.ret ?_
      refine TQ.rets [4] _ rfl rfl rfl ?_
      have hvk : via = k := by omega
      subst hvk
      exact ⟨a, cap, msegs via (fwM (EU rs) via) bs ++ [seg], rfl, by simp, Mat.own hbs ho⟩
end Go.Proofs.Ytdehpaikapbckaa
/- The order of blocks: plain Lean. -/
namespace Go.Proofs.Ytdehpaikapbckaa
def TransM (n : Nat) (M : Nat → Nat → Bool) : Prop := ∀ a b c, a < n → b < n → c < n → M a b = true → M b c = true → M a c = true
theorem fw_TransM (E : Nat → Nat → Bool) (n : Nat) : TransM n (fwM E n) := fun _ _ _ _ hb _ h1 h2 => fw_trans hb h1 h2
def blockS (n : Nat) (M : Nat → Nat → Bool) (a : Nat) : List Nat := (List.range n).filter fun b => a == b || (M a b && M b a)
def readyS (n : Nat) (M : Nat → Nat → Bool) (done : List Nat) (a : Nat) : Bool := !done.contains a && (List.range n).all fun b => !M a b || ((blockS n M a).contains b || done.contains b)
def pickS (n : Nat) (M : Nat → Nat → Bool) (done : List Nat) : Option Nat := (List.range n).find? (readyS n M done)
def orderS (n : Nat) (M : Nat → Nat → Bool) : Nat → List Nat → List (List Nat)
  | 0, _ => []
  | f + 1, done => match pickS n M done with
    | none => []
    | some a => blockS n M a :: orderS n M f (done ++ blockS n M a)
structure GoodD (n : Nat) (M : Nat → Nat → Bool) (done : List Nat) : Prop where
  nd : done.Nodup
  lt : ∀ a ∈ done, a < n
  cl : ∀ a ∈ done, ∀ b, b < n → M a b = true → b ∈ done
theorem GoodD.nil (n : Nat) (M : Nat → Nat → Bool) : GoodD n M [] := ⟨List.nodup_nil, by simp, by simp⟩
theorem mem_blockS {n : Nat} {M : Nat → Nat → Bool} {a b : Nat} : b ∈ blockS n M a ↔ b < n ∧ (a = b ∨ (M a b = true ∧ M b a = true)) := by
  simp [blockS, List.mem_filter]
theorem blockS_nodup (n : Nat) (M : Nat → Nat → Bool) (a : Nat) : (blockS n M a).Nodup := List.Nodup.sublist List.filter_sublist List.nodup_range
theorem readyS_iff {n : Nat} {M : Nat → Nat → Bool} {done : List Nat} {a : Nat} : readyS n M done a = true ↔ a ∉ done ∧ ∀ b, b < n → M a b = true → b ∈ blockS n M a ∨ b ∈ done := by
  simp only [readyS, Bool.and_eq_true, Bool.not_eq_true', List.all_eq_true, List.mem_range, Bool.or_eq_true, List.contains_iff_mem]
  constructor
  · rintro ⟨h1, h2⟩
    refine ⟨by simpa using h1, fun b hb hm => ?_⟩
    rcases h2 b hb with h | h
    · rw [hm] at h; cases h
    · exact h
  · rintro ⟨h1, h2⟩
    refine ⟨by simpa using h1, fun b hb => ?_⟩
    cases hm : M a b with
    | false => exact .inl rfl
    | true => exact .inr (h2 b hb hm)
theorem pickS_some {n : Nat} {M : Nat → Nat → Bool} {done : List Nat} {a : Nat} (h : pickS n M done = some a) : a < n ∧ readyS n M done a = true := by
  unfold pickS at h
  exact ⟨by simpa using List.mem_of_find?_eq_some h, List.find?_some h⟩
theorem GoodD.step {n : Nat} {M : Nat → Nat → Bool} (ht : TransM n M) {done : List Nat} (hg : GoodD n M done) {a : Nat} (ha : a < n) (hr : readyS n M done a = true) : GoodD n M (done ++ blockS n M a) := by
  obtain ⟨h1, h2⟩ := readyS_iff.1 hr
  refine ⟨?_, ?_, ?_⟩
  · rw [List.nodup_append]
    refine ⟨hg.nd, blockS_nodup n M a, ?_⟩
    rintro x hx y hy rfl
    obtain ⟨hxn, h | ⟨_, h⟩⟩ := mem_blockS.1 hy
    · subst h; exact h1 hx
    · exact h1 (hg.cl x hx a ha h)
  · intro x hx
    rcases List.mem_append.1 hx with h | h
    · exact hg.lt x h
    · exact (mem_blockS.1 h).1
  · intro x hx b hb hm
    rcases List.mem_append.1 hx with h | h
    · exact List.mem_append_left _ (hg.cl x h b hb hm)
    · obtain ⟨hxn, h | ⟨h3, h4⟩⟩ := mem_blockS.1 h
      · subst h
        rcases h2 b hb hm with h | h
        · exact List.mem_append_right _ h
        · exact List.mem_append_left _ h
      · rcases h2 b hb (ht a x b ha hxn hb h3 hm) with h | h
        · exact List.mem_append_right _ h
        · exact List.mem_append_left _ h
/-- While some are left one is ready. -/
theorem some_ready {n : Nat} {M : Nat → Nat → Bool} (ht : TransM n M) {done : List Nat} {a0 : Nat} (h0 : a0 < n) (hd0 : a0 ∉ done) : ∃ a, a < n ∧ readyS n M done a = true := by
  have key : ∀ c, c ≤ n → ∃ a, a < n ∧ a ∉ done ∧ ∀ b, b < c → b ∉ done → M a b = true → M b a = true := by
    intro c
    induction c with
    | zero => exact fun _ => ⟨a0, h0, hd0, fun b hb => by omega⟩
    | succ c ih =>
      intro hc
      obtain ⟨a, h1, h2, h3⟩ := ih (by omega)
      by_cases hx : c ∉ done ∧ M a c = true ∧ M c a ≠ true
      · refine ⟨c, by omega, hx.1, fun b hb hbd hm => ?_⟩
        by_cases hbc : b = c
        · subst hbc; exact hm
        · have h4 := ht a c b h1 (by omega) (by omega) hx.2.1 hm
          have h5 := h3 b (by omega) hbd h4
          exact ht b a c (by omega) h1 (by omega) h5 hx.2.1
      · refine ⟨a, h1, h2, fun b hb hbd hm => ?_⟩
        by_cases hbc : b = c
        · subst hbc
          by_cases hm2 : M b a = true
          · exact hm2
          · exact absurd ⟨hbd, hm, hm2⟩ hx
        · exact h3 b (by omega) hbd hm
  obtain ⟨a, h1, h2, h3⟩ := key n (Nat.le_refl _)
  refine ⟨a, h1, readyS_iff.2 ⟨h2, fun b hb hm => ?_⟩⟩
  by_cases hbd : b ∈ done
  · exact .inr hbd
  · exact .inl (mem_blockS.2 ⟨hb, .inr ⟨hm, h3 b hb hbd hm⟩⟩)
theorem left_over {n : Nat} {done : List Nat} (hl : done.length < n) : ∃ a, a < n ∧ a ∉ done := by
  apply Classical.byContradiction
  intro h
  have : ∀ a, a < n → a ∈ done := fun a ha => Classical.byContradiction fun h2 => h ⟨a, ha, h2⟩
  have := (List.nodup_range (n := n)).length_le_of_subset (l₂ := done) (fun a ha => this a (by simpa using ha))
  simp at this; omega
theorem all_done {n : Nat} {M : Nat → Nat → Bool} {done : List Nat} (hg : GoodD n M done) (hl : n ≤ done.length) : ∀ a, a < n → a ∈ done := by
  intro a ha
  apply Classical.byContradiction
  intro h
  have : (a :: done).Nodup := List.nodup_cons.2 ⟨h, hg.nd⟩
  have := this.length_le_of_subset (l₂ := List.range n) (fun b hb => by
    rcases List.mem_cons.1 hb with rfl | hb
    · simpa using ha
    · simpa using hg.lt b hb)
  simp at this; omega
theorem pickS_none {n : Nat} {M : Nat → Nat → Bool} {done : List Nat} : pickS n M done = none ↔ ∀ a, a < n → readyS n M done a = false := by
  simp [pickS]
theorem pick_end {n : Nat} {M : Nat → Nat → Bool} {done : List Nat} (hg : GoodD n M done) (hl : n ≤ done.length) : pickS n M done = none :=
  pickS_none.2 fun a ha => by
    rw [Bool.eq_false_iff]; intro h
    exact (readyS_iff.1 h).1 (all_done hg hl a ha)
theorem pickS_is {n : Nat} {M : Nat → Nat → Bool} {done : List Nat} {a : Nat} (ha : a < n) (hr : readyS n M done a = true) (hl : ∀ b, b < a → readyS n M done b = false) : pickS n M done = some a := by
  unfold pickS
  rw [List.find?_eq_some_iff_append]
  refine ⟨hr, List.range a, (List.range' (a + 1) (n - a - 1)), ?_, ?_⟩
  · have e : n = a + (1 + (n - a - 1)) := by omega
    conv => lhs; rw [e, List.range_add]
    congr 1
    rw [show 1 + (n - a - 1) = (n - a - 1) + 1 by omega, List.range_succ_eq_map]
    simp [List.range'_eq_map_range, Nat.add_comm, Nat.add_left_comm, Function.comp_def]
  · intro b hb
    have := hl b (by simpa using hb)
    simp [this]
theorem orderS_end {n : Nat} {M : Nat → Nat → Bool} {done : List Nat} (h : pickS n M done = none) (f : Nat) : orderS n M f done = [] := by
  cases f with
  | zero => rfl
  | succ f => simp [orderS, h]
theorem orderS_step {n : Nat} {M : Nat → Nat → Bool} {done : List Nat} {a f : Nat} (h : pickS n M done = some a) : orderS n M (f + 1) done = blockS n M a :: orderS n M f (done ++ blockS n M a) := by
  simp [orderS, h]
theorem self_block {n : Nat} {M : Nat → Nat → Bool} {a : Nat} (h : a < n) : a ∈ blockS n M a := mem_blockS.2 ⟨h, .inl rfl⟩
/-- No denial in a block. -/
def ordB (n : Nat) (D M : Nat → Nat → Bool) : Bool := (List.range n).all fun a => (List.range n).all fun b => !(D a b && (a == b || M b a))
theorem ordB_iff {n : Nat} {D M : Nat → Nat → Bool} : ordB n D M = true ↔ ∀ a b, a < n → b < n → D a b = true → ¬ (a = b ∨ M b a = true) := by
  simp only [ordB, List.all_eq_true, List.mem_range, Bool.not_eq_true', Bool.and_eq_false_iff]
  constructor
  · intro h a b ha hb hd hx
    rcases h a ha b hb with h1 | h1
    · rw [hd] at h1; cases h1
    · rcases hx with hx | hx <;> simp [hx] at h1
  · intro h a ha b hb
    cases hd : D a b with
    | false => exact .inl rfl
    | true =>
      right
      have := h a b ha hb hd
      rw [Bool.eq_false_iff]
      intro hx; simp at hx; exact this hx
end Go.Proofs.Ytdehpaikapbckaa
/- The reference's blocks. -/
namespace Go.Proofs.Ytdehpaikapbckaa
open Go.Sl
variable {S : Nat → Prop} {w0 : World} {η : Heap}
abbrev nats (l : List Nat) : List Value := l.map fun (b : Nat) => Value.int .i64 (b : Int)
theorem nats_ints (l : List Nat) : nats l = ints (l.map fun (b : Nat) => (b : Int)) := by simp [nats, ints]
theorem nats1 (l : List Nat) : ∀ u ∈ nats l, u.oneCell' = true := by intro u hu; obtain ⟨b, _, rfl⟩ := List.mem_map.1 hu; rfl
theorem _root_.Go.Sl.Row.bit {a : Option Addr} {n : Nat} {g : Nat → Bool} (h : Row S w0 η a (rowC n g)) {j : Nat} (hj : j < n) : At S w0 η (sAt a (j * 1)) (.bool (g j)) := by rw [Nat.mul_one]; exact h.cell j _ (rowC_get hj)
theorem _root_.Go.Sl.Row.bad {a : Option Addr} {n : Nat} {g : Nat → Bool} (h : Row S w0 η a (rowC n g)) {j : Nat} (hj : j < n) : ∃ ad, a = some ad ∧ ad.spot = none := h.adi (i := j) (by rw [rowC_len]; exact hj)

set_option maxHeartbeats 2000000 in
theorem ordered_fn {p m : Option Addr} {rs : List RuleD} {c n mc : Nat} {M : Nat → Nat → Bool} (hr : Rules S w0 [] p rs) (hl : rs.length < 2 ^ 63) (hb : ∀ r ∈ rs, r.body.length < 2 ^ 63) (hn : n ≤ 1000) (hm : Mat S w0 η m n M) :
    Rt Try.prog 31 [.int .i64 (n : Int), .slice p rs.length c, .slice m n mc].toArray S w0 η (fun v η' => v = .bool (ordB n (ED rs) M) ∧ η' = η) := by
  have hF := open_wide
  refine Rt.of (fn := Try.f31) Try.func31 rfl rfl ?_
  refine T.seq ?_
  refine T.region ?_
  refine TL.assign hF rfl rfl ?_
  refine TL.nil ?_
  refine TQ.then_n ?_
  refine T.seq ?_
  refine T.seq ?_
  refine T.region ?_
  refine TL.assign hF rfl rfl ?_
  refine TL.nil ?_
  refine TQ.then_n ?_
  refine T.block ?_
  obtain ⟨f, hf⟩ := hm
  refine T.loop (ι := Nat) (fun k => k ≤ n ∧ ∀ a b, a < k → b < n → ED rs a b = true → ¬ (a = b ∨ M b a = true)) (fun k => [(0, .int .i64 (n : Int)), (1, .slice p rs.length c), (2, .slice m n mc), (7, .int .i64 (k : Int))]) (fun _ => η) (fun k => n - k) 0 ⟨Nat.zero_le _, by omega⟩ ⟨rfl, rfl, rfl, rfl, trivial⟩ rfl ?_
  rintro k ⟨hk, hs⟩
  refine T.seq ?_
  refine T.seq ?_
  refine T.region ?_
  refine TL.move hF rfl rfl ?_
  refine TL.move hF rfl rfl ?_
  refine TL.bin hF rfl rfl rfl rfl ?_
  refine TL.nil ?_
  refine TQ.then_n ?_
  first | refine T.cond_d rfl (fun ht11 => ?_) (fun ht11 => ?_) | refine T.cond _ rfl (fun ht11 => ?_) (fun ht11 => ?_)
  · refine T.skip ?_
    refine TQ.then_n ?_
    refine T.seq ?_
    refine T.block ?_
    refine T.seq ?_
    refine T.region ?_
    refine TL.assign hF rfl rfl ?_
    refine TL.nil ?_
    refine TQ.then_n ?_
    refine T.block ?_
    refine T.loop (ι := Nat) (fun j => j ≤ n ∧ ∀ b, b < j → ED rs k b = true → ¬ (k = b ∨ M b k = true)) (fun j => [(0, .int .i64 (n : Int)), (1, .slice p rs.length c), (2, .slice m n mc), (7, .int .i64 (k : Int)), (8, .int .i64 (j : Int))]) (fun _ => η) (fun j => n - j) 0 ⟨Nat.zero_le _, by omega⟩ ⟨rfl, rfl, rfl, rfl, rfl, trivial⟩ rfl ?_
    rintro j ⟨hj, hjs⟩
    refine T.seq ?_
    refine T.seq ?_
    refine T.region ?_
    refine TL.move hF rfl rfl ?_
    refine TL.move hF rfl rfl ?_
    refine TL.bin hF rfl rfl rfl rfl ?_
    refine TL.nil ?_
    refine TQ.then_n ?_
    first | refine T.cond_d rfl (fun ht16 => ?_) (fun ht16 => ?_) | refine T.cond _ rfl (fun ht16 => ?_) (fun ht16 => ?_)
    · refine T.skip ?_
      refine TQ.then_n ?_
      refine T.seq ?_
      refine T.block ?_
      refine T.seq ?_
      refine T.region ?_
      refine TL.move hF rfl rfl ?_
      refine TL.move hF rfl rfl ?_
      refine TL.move hF rfl rfl ?_
      refine TL.callV hF (Uses_fn k j true hr hl hb) rfl rfl ?_
      refine TL.move hF rfl rfl ?_
      refine TL.gb (t := 23) rfl (fun g7_23 => ?_) (fun g7_23 => ?_)
      · refine TL.on rfl rfl rfl g7_23 ?_
        refine TL.move hF rfl rfl ?_
        refine TL.on rfl rfl rfl g7_23 ?_
        refine TL.move hF rfl rfl ?_
        refine TL.on rfl rfl rfl g7_23 ?_
        refine TL.bin hF rfl rfl rfl rfl ?_
        refine TL.on rfl rfl rfl g7_23 ?_
        refine TL.move hF rfl rfl ?_
        refine TL.gd (t := 27) rfl (fun g7_27 => ?_) (fun g7_27 => ?_)
        · refine TL.off hF rfl rfl rfl (decide_eq_true g7_27) rfl ?_
          refine TL.off hF rfl rfl rfl (decide_eq_true g7_27) rfl ?_
          refine TL.off hF rfl rfl rfl (decide_eq_true g7_27) rfl ?_
          refine TL.off hF rfl rfl rfl (decide_eq_true g7_27) rfl ?_
          refine TL.off hF rfl rfl rfl (decide_eq_true g7_27) rfl ?_
          refine TL.off hF rfl rfl rfl (decide_eq_true g7_27) rfl ?_
          refine TL.off hF rfl rfl rfl (decide_eq_true g7_27) rfl ?_
          refine TL.on rfl rfl rfl g7_23 ?_
          refine TL.pickT hF rfl (decide_eq_true g7_27) rfl rfl ?_
          refine TL.pickT hF rfl g7_23 rfl rfl ?_
          refine TL.nil ?_
          refine TQ.then_n ?_
          refine T.cond_t rfl rfl ?_
          refine T.seq ?_
          refine T.region ?_
          refine TL.assign hF rfl rfl ?_
          refine TL.nil ?_
          refine TQ.then_n ?_
          refine T.ret ?_
          refine TQ.block_r ?_
          refine TQ.then_r ?_
          refine TQ.then_r ?_
          refine TQ.block_r ?_
          refine TQ.block_r ?_
          refine TQ.then_r ?_
          refine TQ.then_r ?_
          refine TQ.block_r ?_
          refine TQ.then_r ?_
          refine TQ.rets [6] _ rfl rfl rfl ?_
          have h1 : ordB n (ED rs) M = false := by
            rw [Bool.eq_false_iff]; intro h
            exact ordB_iff.1 h k j (by omega) (by omega) g7_23 (by first | exact .inl (by omega) | (right; simp_all))
          exact ⟨by simp [retVal, h1], rfl⟩
        · refine TL.on rfl rfl rfl (decide_eq_false g7_27) ?_
          refine TL.move hF rfl rfl ?_
          refine TL.on rfl rfl rfl (decide_eq_false g7_27) ?_
          refine TL.move hF rfl rfl ?_
          refine TL.on rfl rfl rfl (decide_eq_false g7_27) ?_
          refine TL.indexAddr hF rfl rfl (hf j (by omega)).1 (by omega) (by omega) rfl ?_
          refine TL.on rfl rfl rfl (decide_eq_false g7_27) ?_
          refine TL.load hF rfl (hf j (by omega)).2.1 rfl ?_
          refine TL.on rfl rfl rfl (decide_eq_false g7_27) ?_
          refine TL.move hF rfl rfl ?_
          refine TL.on rfl rfl rfl (decide_eq_false g7_27) ?_
          refine TL.indexAddr hF rfl rfl ((hf j (by omega)).2.2.bad (j := k) (by omega)) (by omega) (by omega) rfl ?_
          refine TL.on rfl rfl rfl (decide_eq_false g7_27) ?_
          refine TL.load hF rfl ((hf j (by omega)).2.2.bit (j := k) (by omega)) rfl ?_
          refine TL.on rfl rfl rfl g7_23 ?_
          refine TL.pickF hF rfl (decide_eq_false g7_27) rfl rfl ?_
          refine TL.pickT hF rfl g7_23 rfl rfl ?_
          refine TL.nil ?_
          refine TQ.then_n ?_
          first | refine T.cond_d rfl (fun ht36 => ?_) (fun ht36 => ?_) | refine T.cond _ rfl (fun ht36 => ?_) (fun ht36 => ?_)
          · refine T.seq ?_
            refine T.region ?_
            refine TL.assign hF rfl rfl ?_
            refine TL.nil ?_
            refine TQ.then_n ?_
            refine T.ret ?_
            refine TQ.block_r ?_
            refine TQ.then_r ?_
            refine TQ.then_r ?_
            refine TQ.block_r ?_
            refine TQ.block_r ?_
            refine TQ.then_r ?_
            refine TQ.then_r ?_
            refine TQ.block_r ?_
            refine TQ.then_r ?_
            refine TQ.rets [6] _ rfl rfl rfl ?_
            have h1 : ordB n (ED rs) M = false := by
              rw [Bool.eq_false_iff]; intro h
              exact ordB_iff.1 h k j (by omega) (by omega) g7_23 (by first | exact .inl (by omega) | (right; simp_all))
            exact ⟨by simp [retVal, h1], rfl⟩
          · refine T.skip ?_
            refine TQ.block_n ?_
            refine TQ.then_n ?_
            refine T.region ?_
            refine TL.move hF rfl rfl ?_
            refine TL.add hF rfl rfl (by omega) (by omega) rfl ?_
            refine TL.assign hF rfl rfl ?_
            refine TL.nil ?_
            refine TQ.round (j + 1) ⟨by omega, fun b hb2 hd hx => ?_⟩ (by omega) ⟨rfl, rfl, rfl, rfl, rfl, trivial⟩ rfl
            by_cases hbj : b = j
            · subst hbj; first | (rw [hd] at g7_23; cases g7_23) | (rcases hx with hx | hx <;> first | omega | simp_all)
            · exact hjs b (by omega) hd hx
      · refine TL.off hF rfl rfl rfl g7_23 rfl ?_
        refine TL.off hF rfl rfl rfl g7_23 rfl ?_
        refine TL.off hF rfl rfl rfl g7_23 rfl ?_
        refine TL.off hF rfl rfl rfl g7_23 rfl ?_
        refine TL.offU hF rfl rfl rfl rfl ?_
        refine TL.offU hF rfl rfl rfl rfl ?_
        refine TL.offU hF rfl rfl rfl rfl ?_
        refine TL.offU hF rfl rfl rfl rfl ?_
        refine TL.offU hF rfl rfl rfl rfl ?_
        refine TL.offU hF rfl rfl rfl rfl ?_
        refine TL.offU hF rfl rfl rfl rfl ?_
        refine TL.off hF rfl rfl rfl g7_23 rfl ?_
        refine TL.pickF hF rfl g7_23 rfl rfl ?_
        refine TL.nil ?_
        refine TQ.then_n ?_
        refine T.cond_f rfl rfl ?_
        refine T.skip ?_
        refine TQ.block_n ?_
        refine TQ.then_n ?_
        refine T.region ?_
        refine TL.move hF rfl rfl ?_
        refine TL.add hF rfl rfl (by omega) (by omega) rfl ?_
        refine TL.assign hF rfl rfl ?_
        refine TL.nil ?_
        refine TQ.round (j + 1) ⟨by omega, fun b hb2 hd hx => ?_⟩ (by omega) ⟨rfl, rfl, rfl, rfl, rfl, trivial⟩ rfl
        by_cases hbj : b = j
        · subst hbj; first | (rw [hd] at g7_23; cases g7_23) | (rcases hx with hx | hx <;> first | omega | simp_all)
        · exact hjs b (by omega) hd hx
    · refine T.exit ?_
      refine TQ.then_x ?_
      refine TQ.then_x ?_
      refine TQ.block_x ?_
      refine TQ.block_n ?_
      refine TQ.then_n ?_
      refine T.region ?_
      refine TL.move hF rfl rfl ?_
      refine TL.add hF rfl rfl (by omega) (by omega) rfl ?_
      refine TL.assign hF rfl rfl ?_
      refine TL.nil ?_
      refine TQ.round (k + 1) ⟨by omega, fun a b ha hb2 => ?_⟩ (by omega) ⟨rfl, rfl, rfl, rfl, trivial⟩ rfl
      by_cases hak : a = k
      · subst hak; exact hjs b (by omega)
      · exact hs a b (by omega) hb2
  · refine T.exit ?_
    refine TQ.then_x ?_
    refine TQ.then_x ?_
    refine TQ.block_x ?_
    refine TQ.then_n ?_
    refine T.seq ?_
    refine T.region ?_
    refine TL.assign hF rfl rfl ?_
    refine TL.nil ?_
    refine TQ.then_n ?_
    refine T.ret ?_
    refine TQ.rets [6] _ rfl rfl rfl ?_
    exact ⟨by rw [ordB_iff.2 (fun a b ha hb2 => hs a b (by omega) hb2)]; rfl, rfl⟩
set_option maxHeartbeats 2000000 in
theorem block_fn {m : Option Addr} {n mc q : Nat} {M : Nat → Nat → Bool} (hn : n ≤ 1000) (hm : Mat S w0 η m n M) (hq : q < n) :
    Rt Try.prog 57 [.int .i64 (n : Int), .slice m n mc, .int .i64 (q : Int)].toArray S w0 η (fun v η' => ∃ a cap seg, v = .slice a (blockS n M q).length cap ∧ η' = seg :: η ∧ OSl 3 1 (.slice a (blockS n M q).length cap) (blockS n M q).length (nats (blockS n M q)) seg) := by
  have hF := open_wide
  refine Rt.of (fn := Try.f57) Try.func57 rfl rfl ?_
  refine T.seq ?_
  refine T.region ?_
  refine TL.assign hF rfl rfl ?_
  refine TL.nil ?_
  refine TQ.then_n ?_
  refine T.seq ?_
  refine T.region ?_
  refine TL.assign hF rfl rfl ?_
  refine TL.nil ?_
  refine TQ.then_n ?_
  refine T.seq ?_
  refine T.seq ?_
  refine T.region ?_
  refine TL.assign hF rfl rfl ?_
  refine TL.nil ?_
  refine TQ.then_n ?_
  refine T.block ?_
  refine T.hnil ?_
  obtain ⟨f, hf⟩ := hm
  refine T.loop (ι := Nat × List Nat × Option Addr × Nat × Seg) (fun i => i.1 ≤ n ∧ i.2.1 = (List.range i.1).filter (fun b => q == b || (M q b && M b q)) ∧ OSl 3 1 (.slice i.2.2.1 i.2.1.length i.2.2.2.1) i.2.1.length (nats i.2.1) i.2.2.2.2) (fun i => [(0, .int .i64 (n : Int)), (1, .slice m n mc), (2, .int .i64 (q : Int)), (7, .slice i.2.2.1 i.2.1.length i.2.2.2.1), (8, .int .i64 (i.1 : Int))]) (fun i => i.2.2.2.2 :: η) (fun i => n - i.1) (0, [], none, 0, []) ⟨Nat.zero_le _, rfl, OSl.nil 3 1⟩ ⟨rfl, rfl, rfl, rfl, rfl, trivial⟩ rfl ?_
  rintro ⟨k, l, a, cap, seg⟩ ⟨hk, hl, ho⟩
  simp only at hk hl ho
  have hlen : l.length ≤ k := by rw [hl]; simpa using List.length_filter_le (p := fun b => q == b || (M q b && M b q)) (l := List.range k)
  refine T.seq ?_
  refine T.seq ?_
  refine T.region ?_
  refine TL.move hF rfl rfl ?_
  refine TL.move hF rfl rfl ?_
  refine TL.bin hF rfl rfl rfl rfl ?_
  refine TL.nil ?_
  refine TQ.then_n ?_
  first | refine T.cond_d rfl (fun ht11 => ?_) (fun ht11 => ?_) | refine T.cond _ rfl (fun ht11 => ?_) (fun ht11 => ?_)
  · refine T.skip ?_
    refine TQ.then_n ?_
    refine T.seq ?_
    refine T.block ?_
    refine T.seq ?_
    refine T.region ?_
    refine TL.move hF rfl rfl ?_
    refine TL.move hF rfl rfl ?_
    refine TL.bin hF rfl rfl rfl rfl ?_
    refine TL.move hF rfl rfl ?_
    refine TL.gd (t := 17) rfl (fun g5_17 => ?_) (fun g5_17 => ?_)
    · refine TL.off hF rfl rfl rfl (decide_eq_true g5_17) rfl ?_
      refine TL.off hF rfl rfl rfl (decide_eq_true g5_17) rfl ?_
      refine TL.off hF rfl rfl rfl (decide_eq_true g5_17) rfl ?_
      refine TL.off hF rfl rfl rfl (decide_eq_true g5_17) rfl ?_
      refine TL.off hF rfl rfl rfl (decide_eq_true g5_17) rfl ?_
      refine TL.off hF rfl rfl rfl (decide_eq_true g5_17) rfl ?_
      refine TL.off hF rfl rfl rfl (decide_eq_true g5_17) rfl ?_
      refine TL.off hF rfl rfl rfl (decide_eq_true g5_17) rfl ?_
      refine TL.offU hF rfl rfl rfl rfl ?_
      refine TL.offU hF rfl rfl rfl rfl ?_
      refine TL.offU hF rfl rfl rfl rfl ?_
      refine TL.offU hF rfl rfl rfl rfl ?_
      refine TL.offU hF rfl rfl rfl rfl ?_
      refine TL.offU hF rfl rfl rfl rfl ?_
      refine TL.offU hF rfl rfl rfl rfl ?_
      refine TL.off hF rfl rfl rfl (decide_eq_true g5_17) rfl ?_
      refine TL.pickT hF rfl (decide_eq_true g5_17) rfl rfl ?_
      refine TL.nil ?_
      refine TQ.then_n ?_
      refine T.cond_t rfl rfl ?_
      refine T.region ?_
      refine TL.move hF rfl rfl ?_
      refine TL.move hF rfl rfl ?_
      refine TL.buildSlice hF rfl (cs := #[.int .i64 (k : Int)]) (e := 3) (fun w => by kernel_rfl) rfl (fun b37 => ?_)
      refine TL.append hF 1 rfl rfl rfl ho (row_own (cs := [.int .i64 (k : Int)]) (e := 3) (by simp)).src rfl rfl (by simp [Value.oneCell']) (by omega) (by omega) rfl (fun a' cap' seg' ho' => ?_)
      refine TL.assign hF rfl rfl ?_
      refine TL.nil ?_
      refine TQ.block_n ?_
      refine TQ.then_n ?_
      refine T.region ?_
      refine TL.move hF rfl rfl ?_
      refine TL.add hF rfl rfl (by omega) (by omega) rfl ?_
      refine TL.assign hF rfl rfl ?_
      refine TL.nil ?_
      have e1 : (l ++ [k]).length = l.length + 1 := by simp
      refine TQ.pop ?_
      refine TQ.round (k + 1, l ++ [k], a', cap', seg') ⟨by simp only; omega, ?_, by simpa using ho'⟩ (by simp only; omega) ⟨rfl, rfl, rfl, congrArg (fun z => some (Value.slice a' z cap')) e1.symm, rfl, trivial⟩ rfl
      have hqk : q = k := by omega
      rw [List.range_succ, List.filter_append, ← hl]; simp [hqk]
    · refine TL.on rfl rfl rfl (decide_eq_false g5_17) ?_
      refine TL.move hF rfl rfl ?_
      refine TL.on rfl rfl rfl (decide_eq_false g5_17) ?_
      refine TL.move hF rfl rfl ?_
      refine TL.on rfl rfl rfl (decide_eq_false g5_17) ?_
      refine TL.indexAddr hF rfl rfl (hf q (by omega)).1 (by omega) (by omega) rfl ?_
      refine TL.on rfl rfl rfl (decide_eq_false g5_17) ?_
      refine TL.load hF rfl ((hf q (by omega)).2.1.up upc) rfl ?_
      refine TL.on rfl rfl rfl (decide_eq_false g5_17) ?_
      refine TL.move hF rfl rfl ?_
      refine TL.on rfl rfl rfl (decide_eq_false g5_17) ?_
      refine TL.indexAddr hF rfl rfl ((hf q (by omega)).2.2.bad (j := k) (by omega)) (by omega) (by omega) rfl ?_
      refine TL.on rfl rfl rfl (decide_eq_false g5_17) ?_
      refine TL.load hF rfl (((hf q (by omega)).2.2.bit (j := k) (by omega)).up upc) rfl ?_
      refine TL.on rfl rfl rfl (decide_eq_false g5_17) ?_
      refine TL.move hF rfl rfl ?_
      refine TL.gb (t := 25) rfl (fun g5_25 => ?_) (fun g5_25 => ?_)
      · refine TL.on rfl rfl rfl g5_25 ?_
        refine TL.move hF rfl rfl ?_
        refine TL.on rfl rfl rfl g5_25 ?_
        refine TL.move hF rfl rfl ?_
        refine TL.on rfl rfl rfl g5_25 ?_
        refine TL.indexAddr hF rfl rfl (hf k (by omega)).1 (by omega) (by omega) rfl ?_
        refine TL.on rfl rfl rfl g5_25 ?_
        refine TL.load hF rfl ((hf k (by omega)).2.1.up upc) rfl ?_
        refine TL.on rfl rfl rfl g5_25 ?_
        refine TL.move hF rfl rfl ?_
        refine TL.on rfl rfl rfl g5_25 ?_
        refine TL.indexAddr hF rfl rfl ((hf k (by omega)).2.2.bad (j := q) (by omega)) (by omega) (by omega) rfl ?_
        refine TL.on rfl rfl rfl g5_25 ?_
        refine TL.load hF rfl (((hf k (by omega)).2.2.bit (j := q) (by omega)).up upc) rfl ?_
        refine TL.on rfl rfl rfl (decide_eq_false g5_17) ?_
        refine TL.pickT hF rfl g5_25 rfl rfl ?_
        refine TL.pickF hF rfl (decide_eq_false g5_17) rfl rfl ?_
        refine TL.nil ?_
        refine TQ.then_n ?_
        first | refine T.cond_d rfl (fun ht34 => ?_) (fun ht34 => ?_) | refine T.cond _ rfl (fun ht34 => ?_) (fun ht34 => ?_)
        · refine T.region ?_
          refine TL.move hF rfl rfl ?_
          refine TL.move hF rfl rfl ?_
          refine TL.buildSlice hF rfl (cs := #[.int .i64 (k : Int)]) (e := 3) (fun w => by kernel_rfl) rfl (fun b37 => ?_)
          refine TL.append hF 1 rfl rfl rfl ho (row_own (cs := [.int .i64 (k : Int)]) (e := 3) (by simp)).src rfl rfl (by simp [Value.oneCell']) (by omega) (by omega) rfl (fun a' cap' seg' ho' => ?_)
          refine TL.assign hF rfl rfl ?_
          refine TL.nil ?_
          refine TQ.block_n ?_
          refine TQ.then_n ?_
          refine T.region ?_
          refine TL.move hF rfl rfl ?_
          refine TL.add hF rfl rfl (by omega) (by omega) rfl ?_
          refine TL.assign hF rfl rfl ?_
          refine TL.nil ?_
          have e1 : (l ++ [k]).length = l.length + 1 := by simp
          refine TQ.pop ?_
          refine TQ.round (k + 1, l ++ [k], a', cap', seg') ⟨by simp only; omega, ?_, by simpa using ho'⟩ (by simp only; omega) ⟨rfl, rfl, rfl, congrArg (fun z => some (Value.slice a' z cap')) e1.symm, rfl, trivial⟩ rfl
          rw [List.range_succ, List.filter_append, ← hl]; simp_all
        · refine T.skip ?_
          refine TQ.block_n ?_
          refine TQ.then_n ?_
          refine T.region ?_
          refine TL.move hF rfl rfl ?_
          refine TL.add hF rfl rfl (by omega) (by omega) rfl ?_
          refine TL.assign hF rfl rfl ?_
          refine TL.nil ?_
          refine TQ.round (k + 1, l, a, cap, seg) ⟨by simp only; omega, ?_, ho⟩ (by simp only; omega) ⟨rfl, rfl, rfl, rfl, rfl, trivial⟩ rfl
          rw [List.range_succ, List.filter_append, ← hl]; simp_all; try omega
      · refine TL.off hF rfl rfl rfl g5_25 rfl ?_
        refine TL.off hF rfl rfl rfl g5_25 rfl ?_
        refine TL.off hF rfl rfl rfl g5_25 rfl ?_
        refine TL.off hF rfl rfl rfl g5_25 rfl ?_
        refine TL.off hF rfl rfl rfl g5_25 rfl ?_
        refine TL.off hF rfl rfl rfl g5_25 rfl ?_
        refine TL.off hF rfl rfl rfl g5_25 rfl ?_
        refine TL.on rfl rfl rfl (decide_eq_false g5_17) ?_
        refine TL.pickF hF rfl g5_25 rfl rfl ?_
        refine TL.pickF hF rfl (decide_eq_false g5_17) rfl rfl ?_
        refine TL.nil ?_
        refine TQ.then_n ?_
        refine T.cond_f rfl rfl ?_
        refine T.skip ?_
        refine TQ.block_n ?_
        refine TQ.then_n ?_
        refine T.region ?_
        refine TL.move hF rfl rfl ?_
        refine TL.add hF rfl rfl (by omega) (by omega) rfl ?_
        refine TL.assign hF rfl rfl ?_
        refine TL.nil ?_
        refine TQ.round (k + 1, l, a, cap, seg) ⟨by simp only; omega, ?_, ho⟩ (by simp only; omega) ⟨rfl, rfl, rfl, rfl, rfl, trivial⟩ rfl
        rw [List.range_succ, List.filter_append, ← hl]; simp_all; try omega
  · refine T.exit ?_
    refine TQ.then_x ?_
    refine TQ.then_x ?_
    refine TQ.block_x ?_
    refine TQ.then_n ?_
    refine T.seq ?_
    refine T.region ?_
    refine TL.move hF rfl rfl ?_
    refine TL.assign hF rfl rfl ?_
    refine TL.nil ?_
    refine TQ.then_n ?_
    refine T.ret ?_
    refine TQ.rets [6] _ rfl rfl rfl ?_
    have hkn : k = n := by omega
    subst hkn
    have e : l = blockS k M q := hl
    rw [← e]
    exact ⟨a, cap, seg, rfl, rfl, ho⟩
end Go.Proofs.Ytdehpaikapbckaa
/- The reference's order of blocks. -/
namespace Go.Proofs.Ytdehpaikapbckaa
open Go.Sl
variable {S : Nat → Prop} {w0 : World} {η : Heap}
theorem hasN_fn {a : Option Addr} {l : List Nat} {c : Nat} (j : Nat) (hx : Row S w0 η a (nats l)) (hl : l.length < 2 ^ 63) :
    Rt Try.prog 44 [.slice a l.length c, .int .i64 (j : Int)].toArray S w0 η (fun v η' => v = .bool (l.contains j) ∧ η' = η) := by
  have h := has_fn (a := a) (xs := l.map fun (b : Nat) => (b : Int)) (c := c) (j : Int) (by rw [← nats_ints]; exact hx) (by simpa using hl)
  rw [List.length_map] at h
  refine h.mono fun v η' hv => ?_
  obtain ⟨rfl, rfl⟩ := hv
  have e : decide ((j : Int) ∈ l.map fun (b : Nat) => (b : Int)) = l.contains j := by
    rw [Bool.eq_iff_iff]; simp only [decide_eq_true_eq, List.mem_map, List.contains_iff_mem]
    constructor
    · rintro ⟨b, hb, he⟩
      have : b = j := by omega
      subst this; exact hb
    · exact fun h => ⟨j, h, rfl⟩
  exact ⟨by rw [e], rfl⟩
theorem hp_at {A : Heap} {s : Seg} {r : Heap} {i : Nat} (h : i = A.length) : (A ++ s :: r)[i]? = some s := by
  subst h; rw [List.getElem?_append_right (Nat.le_refl _)]; simp
theorem hp_set {A : Heap} {s s' : Seg} {r : Heap} {i : Nat} (h : i = A.length) : (A ++ s :: r).set i s' = A ++ s' :: r := by
  subst h; rw [List.set_append_right _ _ (Nat.le_refl _)]; simp
structure OSt where
  f : Nat
  done : List Nat
  outs : List (Value × List Nat × Seg)
  oa : Option Addr
  oc : Nat
  og : Seg
  da : Option Addr
  dc : Nat
  dg : Seg
def OSt.hp (s : OSt) (η : Heap) : Heap := s.outs.map (·.2.2) ++ s.og :: s.dg :: η
structure OSt.Ok (n : Nat) (M : Nat → Nat → Bool) (s : OSt) : Prop where
  good : GoodD n M s.done
  outs : ∀ t ∈ s.outs, OSl 3 1 t.1 t.2.1.length (nats t.2.1) t.2.2
  same : orderS n M n [] = s.outs.map (·.2.1) ++ orderS n M s.f s.done
  fuel : n ≤ s.f + s.done.length
  len : s.outs.length ≤ s.done.length
  o : OSl 23 1 (.slice s.oa s.outs.length s.oc) s.outs.length (s.outs.map (·.1)) s.og
  d : OSl 3 1 (.slice s.da s.done.length s.dc) s.done.length (nats s.done) s.dg
theorem GoodD.len {n : Nat} {M : Nat → Nat → Bool} {l : List Nat} (h : GoodD n M l) : l.length ≤ n := by
  have := h.nd.length_le_of_subset (l₂ := List.range n) (fun b hb => by simpa using h.lt b hb)
  simpa using this
def rdy (n : Nat) (M : Nat → Nat → Bool) (done : List Nat) (k j : Nat) : Bool := !done.contains k && (List.range j).all fun b => !M k b || ((blockS n M k).contains b || done.contains b)
theorem rdy_succ (n : Nat) (M : Nat → Nat → Bool) (done : List Nat) (k j : Nat) : rdy n M done k (j + 1) = (rdy n M done k j && (!M k j || ((blockS n M k).contains j || done.contains j))) := by
  unfold rdy; rw [List.range_succ, List.all_append]; simp [Bool.and_assoc]
theorem blockS_len (n : Nat) (M : Nat → Nat → Bool) (a : Nat) : (blockS n M a).length ≤ n := by
  have := (blockS_nodup n M a).length_le_of_subset (l₂ := List.range n) (fun b hb => by simpa using (mem_blockS.1 hb).1)
  simpa using this
/-- What 'Order' hands over: the blocks, in blocks of memory of their own. -/
def OutL (S : Nat → Prop) (w0 : World) (segs : Heap) (a : Option Addr) (ls : List (List Nat)) : Prop := Lists S w0 segs a (ls.map fun l => l.map fun (b : Nat) => (b : Int))
theorem OSt.Ok.lists {n : Nat} {M : Nat → Nat → Bool} {s : OSt} (h : s.Ok n M) : OutL S w0 (s.outs.map (·.2.2) ++ [s.og]) s.oa (s.outs.map (·.2.1)) := by
  refine ⟨s.outs.map fun t => match t.1 with | .slice a _ c => (a, c) | _ => (none, 0), by simp, ?_, ?_⟩
  · have hr : Row S w0 (s.outs.map (·.2.2) ++ [s.og]) s.oa (s.outs.map (·.1)) := h.o.row (by simp)
    have e : List.zipWith (fun (p : Option Addr × Nat) (l : List Int) => Value.slice p.1 l.length p.2) (s.outs.map fun t => match t.1 with | .slice a _ c => (a, c) | _ => (none, 0)) ((s.outs.map (·.2.1)).map fun l => l.map fun (b : Nat) => (b : Int)) = s.outs.map (·.1) := by
      rw [List.map_map, List.zipWith_map, List.zipWith_self]
      apply List.map_congr_left
      intro t ht
      obtain ⟨a, cap, hv⟩ := (h.outs t ht).form
      simp [hv]
    rw [e]; exact hr
  · intro i h1 h2
    have hi : i < s.outs.length := by simpa using h1
    have ho := h.outs s.outs[i] (List.getElem_mem hi)
    obtain ⟨a, cap, hv⟩ := ho.form
    have hm : s.outs[i].2.2 ∈ s.outs.map (·.2.2) ++ [s.og] := List.mem_append_left _ (List.mem_map.2 ⟨_, List.getElem_mem hi, rfl⟩)
    simp only [List.getElem_map, hv]
    rw [← nats_ints]
    rw [hv] at ho
    exact ho.row hm

set_option maxHeartbeats 2000000 in
theorem Order_fn {m : Option Addr} {n mc : Nat} {M : Nat → Nat → Bool} (hn : n ≤ 1000) (hm : Mat S w0 η m n M) (ht : TransM n M) :
    Rt Try.prog 32 [.int .i64 (n : Int), .slice m n mc].toArray S w0 η (fun v η' => ∃ a cap segs, v = .slice a (orderS n M n []).length cap ∧ η' = segs ++ η ∧ OutL S w0 segs a (orderS n M n [])) := by
  have hF := open_wide
  refine Rt.of (fn := Try.f32) Try.func32 rfl rfl ?_
  refine T.seq ?_
  refine T.region ?_
  refine TL.assign hF rfl rfl ?_
  refine TL.nil ?_
  refine TQ.then_n ?_
  refine T.seq ?_
  refine T.region ?_
  refine TL.assign hF rfl rfl ?_
  refine TL.nil ?_
  refine TQ.then_n ?_
  refine T.seq ?_
  refine T.region ?_
  refine TL.assign hF rfl rfl ?_
  refine TL.nil ?_
  refine TQ.then_n ?_
  refine T.seq ?_
  refine T.block ?_
  refine T.hnil ?_
  refine T.hnil ?_
  obtain ⟨f, hf⟩ := hm
  refine T.loop (ι := OSt) (OSt.Ok n M) (fun s => [(0, .int .i64 (n : Int)), (1, .slice m n mc), (5, .slice s.oa s.outs.length s.oc), (6, .slice s.da s.done.length s.dc)]) (fun s => s.hp η) (fun s => n - s.done.length) ⟨n, [], [], none, 0, [], none, 0, []⟩ ⟨GoodD.nil n M, by simp, by simp, by simp, by simp, OSl.nil 23 1, OSl.nil 3 1⟩ ⟨rfl, rfl, rfl, rfl, trivial⟩ rfl ?_
  rintro s hs
  have hsl := hs.good.len
  have hup : ∀ x ∈ η, x ∈ s.hp η := fun x hx => by simp [OSt.hp, hx]
  refine T.seq ?_
  refine T.seq ?_
  refine T.region ?_
  refine TL.move hF rfl rfl ?_
  refine TL.len hF rfl rfl ?_
  refine TL.move hF rfl rfl ?_
  refine TL.bin hF rfl rfl rfl rfl ?_
  refine TL.nil ?_
  refine TQ.then_n ?_
  first | refine T.cond_d rfl (fun ht15 => ?_) (fun ht15 => ?_) | refine T.cond _ rfl (fun ht15 => ?_) (fun ht15 => ?_)
  · refine T.skip ?_
    refine TQ.then_n ?_
    refine T.block ?_
    refine T.seq ?_
    refine T.region ?_
    refine TL.assign hF rfl rfl ?_
    refine TL.nil ?_
    refine TQ.then_n ?_
    refine T.seq ?_
    refine T.region ?_
    refine TL.assign hF rfl rfl ?_
    refine TL.nil ?_
    refine TQ.then_n ?_
    refine T.block ?_
    refine T.loop (ι := Nat × Int × OSt) (fun i => i.1 ≤ n ∧ ((i.2.1 = -1 ∧ i.2.2 = s ∧ ∀ b, b < i.1 → readyS n M s.done b = false) ∨ (0 ≤ i.2.1 ∧ i.2.2.Ok n M ∧ s.done.length < i.2.2.done.length))) (fun i => [(0, .int .i64 (n : Int)), (1, .slice m n mc), (5, .slice i.2.2.oa i.2.2.outs.length i.2.2.oc), (6, .slice i.2.2.da i.2.2.done.length i.2.2.dc), (7, .int .i64 i.2.1), (8, .int .i64 (i.1 : Int))]) (fun i => i.2.2.hp η) (fun i => n - i.1) (0, -1, s) ⟨Nat.zero_le _, .inl ⟨rfl, rfl, by omega⟩⟩ ⟨rfl, rfl, rfl, rfl, rfl, rfl, trivial⟩ rfl ?_
    rintro ⟨k, nx, s'⟩ ⟨hk, hx⟩
    simp only at hk hx
    refine T.seq ?_
    refine T.seq ?_
    refine T.region ?_
    refine TL.move hF rfl rfl ?_
    refine TL.move hF rfl rfl ?_
    refine TL.bin hF rfl rfl rfl rfl ?_
    refine TL.move hF rfl rfl ?_
    refine TL.gd (t := 19) rfl (fun g6_19 => ?_) (fun g6_19 => ?_)
    · refine TL.on rfl rfl rfl (decide_eq_true g6_19) ?_
      refine TL.move hF rfl rfl ?_
      refine TL.on rfl rfl rfl (decide_eq_true g6_19) ?_
      refine TL.bin hF rfl rfl rfl rfl ?_
      refine TL.pickT hF rfl (decide_eq_true g6_19) rfl rfl ?_
      refine TL.nil ?_
      refine TQ.then_n ?_
      first | refine T.cond_d rfl (fun ht22 => ?_) (fun ht22 => ?_) | refine T.cond _ rfl (fun ht22 => ?_) (fun ht22 => ?_)
      · refine T.skip ?_
        refine TQ.then_n ?_
        refine T.seq ?_
        refine T.block ?_
        refine T.seq ?_
        refine T.region ?_
        refine TL.move hF rfl rfl ?_
        refine TL.move hF rfl rfl ?_
        refine TL.move hF rfl rfl ?_
        obtain ⟨hnx, hse, hnr⟩ : nx = -1 ∧ s' = s ∧ ∀ b, b < k → readyS n M s.done b = false := by
          rcases hx with h | h
          · exact h
          · exfalso; simp only at ht22; omega
        subst hse
        refine TL.call hF (block_fn (q := k) hn ⟨f, fun i hi => ⟨(hf i hi).1, (hf i hi).2.1.up hup, (hf i hi).2.2.up hup⟩⟩ (by omega)) rfl rfl ?_
        rintro _ _ ⟨ba, bc, bseg, rfl, rfl, hown⟩
        refine TL.assign hF rfl rfl ?_
        refine TL.nil ?_
        refine TQ.then_n ?_
        refine T.seq ?_
        refine T.region ?_
        refine TL.move hF rfl rfl ?_
        refine TL.move hF rfl rfl ?_
        refine TL.callV hF (hasN_fn k (hs.d.row (by simp [OSt.hp])) (by omega)) rfl rfl ?_
        refine TL.not hF rfl rfl ?_
        refine TL.assign hF rfl rfl ?_
        refine TL.nil ?_
        refine TQ.then_n ?_
        refine T.seq ?_
        refine T.seq ?_
        refine T.region ?_
        refine TL.assign hF rfl rfl ?_
        refine TL.nil ?_
        refine TQ.then_n ?_
        refine T.block ?_
        have hbl := blockS_len n M k
        have hup2 : ∀ x ∈ η, x ∈ bseg :: s'.hp η := fun x hx => List.mem_cons_of_mem _ (hup x hx)
        refine T.loop (ι := Nat) (fun j => j ≤ n) (fun j => [(0, .int .i64 (n : Int)), (1, .slice m n mc), (5, .slice s'.oa s'.outs.length s'.oc), (6, .slice s'.da s'.done.length s'.dc), (7, .int .i64 nx), (8, .int .i64 (k : Int)), (9, .slice ba (blockS n M k).length bc), (10, .bool (rdy n M s'.done k j)), (11, .int .i64 (j : Int))]) (fun j => bseg :: s'.hp η) (fun j => n - j) 0 (Nat.zero_le _) ⟨rfl, rfl, rfl, rfl, rfl, rfl, rfl, congrArg (fun z => some (Value.bool z)) (by simp [rdy]), rfl, trivial⟩ rfl ?_
        rintro j hj
        refine T.seq ?_
        refine T.seq ?_
        refine T.region ?_
        refine TL.move hF rfl rfl ?_
        refine TL.move hF rfl rfl ?_
        refine TL.bin hF rfl rfl rfl rfl ?_
        refine TL.nil ?_
        refine TQ.then_n ?_
        first | refine T.cond_d rfl (fun ht35 => ?_) (fun ht35 => ?_) | refine T.cond _ rfl (fun ht35 => ?_) (fun ht35 => ?_)
        · refine T.skip ?_
          refine TQ.then_n ?_
          refine T.seq ?_
          refine T.block ?_
          refine T.region ?_
          refine TL.move hF rfl rfl ?_
          refine TL.move hF rfl rfl ?_
          refine TL.gb (t := 39) rfl (fun g13_39 => ?_) (fun g13_39 => ?_)
          · refine TL.on rfl rfl rfl g13_39 ?_
            refine TL.move hF rfl rfl ?_
            refine TL.on rfl rfl rfl g13_39 ?_
            refine TL.move hF rfl rfl ?_
            refine TL.on rfl rfl rfl g13_39 ?_
            refine TL.indexAddr hF rfl rfl (hf k (by omega)).1 (by omega) (by omega) rfl ?_
            refine TL.on rfl rfl rfl g13_39 ?_
            refine TL.load hF rfl ((hf k (by omega)).2.1.up hup2) rfl ?_
            refine TL.on rfl rfl rfl g13_39 ?_
            refine TL.move hF rfl rfl ?_
            refine TL.on rfl rfl rfl g13_39 ?_
            refine TL.indexAddr hF rfl rfl ((hf k (by omega)).2.2.bad (j := j) (by omega)) (by omega) (by omega) rfl ?_
            refine TL.on rfl rfl rfl g13_39 ?_
            refine TL.load hF rfl (((hf k (by omega)).2.2.bit (j := j) (by omega)).up hup2) rfl ?_
            refine TL.on rfl rfl rfl g13_39 ?_
            refine TL.not hF rfl rfl ?_
            refine TL.on rfl rfl rfl g13_39 ?_
            refine TL.move hF rfl rfl ?_
            refine TL.gb (t := 48) rfl (fun g13_48 => ?_) (fun g13_48 => ?_)
            · refine TL.off hF rfl rfl rfl g13_48 rfl ?_
              refine TL.off hF rfl rfl rfl g13_48 rfl ?_
              refine TL.off hF rfl rfl rfl g13_48 rfl ?_
              refine TL.on rfl rfl rfl g13_39 ?_
              refine TL.pickT hF rfl g13_48 rfl rfl ?_
              refine TL.on rfl rfl rfl g13_39 ?_
              refine TL.move hF rfl rfl ?_
              refine TL.off hF rfl rfl rfl rfl rfl ?_
              refine TL.off hF rfl rfl rfl rfl rfl ?_
              refine TL.off hF rfl rfl rfl rfl rfl ?_
              refine TL.on rfl rfl rfl g13_39 ?_
              refine TL.pickT hF rfl rfl rfl rfl ?_
              refine TL.pickT hF rfl g13_39 rfl rfl ?_
              refine TL.assign hF rfl rfl ?_
              refine TL.nil ?_
              refine TQ.block_n ?_
              refine TQ.then_n ?_
              refine T.region ?_
              refine TL.move hF rfl rfl ?_
              refine TL.add hF rfl rfl (by omega) (by omega) rfl ?_
              refine TL.assign hF rfl rfl ?_
              refine TL.nil ?_
              refine TQ.round (j + 1) (by omega) (by omega) ⟨rfl, rfl, rfl, rfl, rfl, rfl, rfl, congrArg (fun z => some (Value.bool z)) (by rw [rdy_succ]; simp_all), rfl, trivial⟩ rfl
            · refine TL.on rfl rfl rfl g13_48 ?_
              refine TL.move hF rfl rfl ?_
              refine TL.on rfl rfl rfl g13_48 ?_
              refine TL.move hF rfl rfl ?_
              refine TL.on rfl rfl rfl g13_48 ?_
              refine TL.callV hF (hasN_fn j (hown.row (by simp)) (by omega)) rfl rfl ?_
              refine TL.on rfl rfl rfl g13_39 ?_
              refine TL.pickF hF rfl g13_48 rfl rfl ?_
              refine TL.on rfl rfl rfl g13_39 ?_
              refine TL.move hF rfl rfl ?_
              refine TL.gb (t := 53) rfl (fun g13_53 => ?_) (fun g13_53 => ?_)
              · refine TL.off hF rfl rfl rfl g13_53 rfl ?_
                refine TL.off hF rfl rfl rfl g13_53 rfl ?_
                refine TL.off hF rfl rfl rfl g13_53 rfl ?_
                refine TL.on rfl rfl rfl g13_39 ?_
                refine TL.pickT hF rfl g13_53 rfl rfl ?_
                refine TL.pickT hF rfl g13_39 rfl rfl ?_
                refine TL.assign hF rfl rfl ?_
                refine TL.nil ?_
                refine TQ.block_n ?_
                refine TQ.then_n ?_
                refine T.region ?_
                refine TL.move hF rfl rfl ?_
                refine TL.add hF rfl rfl (by omega) (by omega) rfl ?_
                refine TL.assign hF rfl rfl ?_
                refine TL.nil ?_
                refine TQ.round (j + 1) (by omega) (by omega) ⟨rfl, rfl, rfl, rfl, rfl, rfl, rfl, congrArg (fun z => some (Value.bool z)) (by rw [rdy_succ]; simp_all), rfl, trivial⟩ rfl
              · refine TL.on rfl rfl rfl g13_53 ?_
                refine TL.move hF rfl rfl ?_
                refine TL.on rfl rfl rfl g13_53 ?_
                refine TL.move hF rfl rfl ?_
                refine TL.on rfl rfl rfl g13_53 ?_
                refine TL.callV hF (hasN_fn j (hs.d.row (by simp [OSt.hp])) (by omega)) rfl rfl ?_
                refine TL.on rfl rfl rfl g13_39 ?_
                refine TL.pickF hF rfl g13_53 rfl rfl ?_
                refine TL.pickT hF rfl g13_39 rfl rfl ?_
                refine TL.assign hF rfl rfl ?_
                refine TL.nil ?_
                refine TQ.block_n ?_
                refine TQ.then_n ?_
                refine T.region ?_
                refine TL.move hF rfl rfl ?_
                refine TL.add hF rfl rfl (by omega) (by omega) rfl ?_
                refine TL.assign hF rfl rfl ?_
                refine TL.nil ?_
                refine TQ.round (j + 1) (by omega) (by omega) ⟨rfl, rfl, rfl, rfl, rfl, rfl, rfl, congrArg (fun z => some (Value.bool z)) (by rw [rdy_succ]; simp_all), rfl, trivial⟩ rfl
          · refine TL.off hF rfl rfl rfl g13_39 rfl ?_
            refine TL.off hF rfl rfl rfl g13_39 rfl ?_
            refine TL.off hF rfl rfl rfl g13_39 rfl ?_
            refine TL.off hF rfl rfl rfl g13_39 rfl ?_
            refine TL.off hF rfl rfl rfl g13_39 rfl ?_
            refine TL.off hF rfl rfl rfl g13_39 rfl ?_
            refine TL.off hF rfl rfl rfl g13_39 rfl ?_
            refine TL.off hF rfl rfl rfl g13_39 rfl ?_
            refine TL.off hF rfl rfl rfl g13_39 rfl ?_
            refine TL.offU hF rfl rfl rfl rfl ?_
            refine TL.offU hF rfl rfl rfl rfl ?_
            refine TL.offU hF rfl rfl rfl rfl ?_
            refine TL.off hF rfl rfl rfl g13_39 rfl ?_
            refine TL.off hF rfl rfl rfl g13_39 rfl ?_
            refine TL.offU hF rfl rfl rfl rfl ?_
            refine TL.offU hF rfl rfl rfl rfl ?_
            refine TL.offU hF rfl rfl rfl rfl ?_
            refine TL.off hF rfl rfl rfl g13_39 rfl ?_
            refine TL.pickF hF rfl g13_39 rfl rfl ?_
            refine TL.assign hF rfl rfl ?_
            refine TL.nil ?_
            refine TQ.block_n ?_
            refine TQ.then_n ?_
            refine T.region ?_
            refine TL.move hF rfl rfl ?_
            refine TL.add hF rfl rfl (by omega) (by omega) rfl ?_
            refine TL.assign hF rfl rfl ?_
            refine TL.nil ?_
            refine TQ.round (j + 1) (by omega) (by omega) ⟨rfl, rfl, rfl, rfl, rfl, rfl, rfl, congrArg (fun z => some (Value.bool z)) (by rw [rdy_succ]; simp_all), rfl, trivial⟩ rfl
        · refine T.exit ?_
          refine TQ.then_x ?_
          refine TQ.then_x ?_
          refine TQ.block_x ?_
          refine TQ.then_n ?_
          refine T.seq ?_
          refine T.region ?_
          refine TL.move hF rfl rfl ?_
          refine TL.nil ?_
          refine TQ.then_n ?_
          have hjn : j = n := by omega
          subst hjn
          refine T.cond _ rfl (fun ht59 => ?_) (fun ht59 => ?_)
          · refine T.seq ?_
            refine T.region ?_
            refine TL.move hF rfl rfl ?_
            refine TL.assign hF rfl rfl ?_
            refine TL.nil ?_
            refine TQ.then_n ?_
            refine T.seq ?_
            refine T.region ?_
            refine TL.move hF rfl rfl ?_
            refine TL.move hF rfl rfl ?_
            refine TL.buildSlice hF rfl (cs := #[.slice ba (blockS j M k).length bc]) (e := 23) (fun w => by kernel_rfl) rfl (fun b63 => ?_)
            refine TL.append hF (s'.outs.length + 1 + 1) rfl rfl (by rw [List.getElem?_cons_succ, List.getElem?_cons_succ]; exact hp_at (by simp)) hs.o (row_own (cs := [.slice ba (blockS j M k).length bc]) (e := 23) (by simp)).src rfl rfl (by simp [Value.oneCell']) (by have := hs.len; omega) (by have := hs.len; omega) rfl (fun oa' oc' og' ho' => ?_)
            rw [List.set_cons_succ, List.set_cons_succ, OSt.hp, hp_set (by simp)]
            refine TL.assign hF rfl rfl ?_
            refine TL.nil ?_
            refine TQ.then_n ?_
            refine T.region ?_
            refine TL.move hF rfl rfl ?_
            refine TL.move hF rfl rfl ?_
            refine TL.append hF (s'.outs.length + 1 + 1 + 1) rfl rfl (by rw [List.getElem?_cons_succ, List.getElem?_cons_succ, List.append_cons]; exact hp_at (by simp)) hs.d (hown.row (by simp)).src rfl (by simp) (nats1 _) (by omega) (by omega) rfl (fun da' dc' dg' hd' => ?_)
            rw [List.set_cons_succ, List.set_cons_succ, List.append_cons, hp_set (by simp)]
            refine TL.assign hF rfl rfl ?_
            refine TL.nil ?_
            refine TQ.block_n ?_
            refine TQ.then_n ?_
            refine T.region ?_
            refine TL.move hF rfl rfl ?_
            refine TL.add hF rfl rfl (by omega) (by omega) rfl ?_
            refine TL.assign hF rfl rfl ?_
            refine TL.nil ?_
            have hr : readyS j M s'.done k = true := ht59
            have hpk : pickS j M s'.done = some k := pickS_is (by omega) hr hnr
            obtain ⟨f', hf'⟩ : ∃ f', s'.f = f' + 1 := ⟨s'.f - 1, by have := hs.fuel; omega⟩
            have hbpos : 0 < (blockS j M k).length := List.length_pos_of_mem (self_block (by omega))
            have e1 : (s'.outs ++ [(Value.slice ba (blockS j M k).length bc, blockS j M k, bseg)]).length = s'.outs.length + 1 := by simp
            have e2 : (s'.done ++ blockS j M k).length = s'.done.length + (blockS j M k).length := by simp
            refine TQ.pop ?_
            refine TQ.hperm ((s'.outs.map (·.2.2) ++ [bseg]) ++ og' :: dg' :: η) ?_ ?_
            · simp only [List.append_assoc, List.cons_append, List.nil_append]; exact List.perm_middle
            refine TQ.round (k + 1, (k : Int), ⟨f', s'.done ++ blockS j M k, s'.outs ++ [(Value.slice ba (blockS j M k).length bc, blockS j M k, bseg)], oa', oc', og', da', dc', dg'⟩) ⟨by simp only; omega, .inr ⟨by simp only; omega, ⟨hs.good.step ht (by omega) hr, ?_, ?_, ?_, ?_, by simpa using ho', by simpa using hd'⟩, by simp only [e2]; omega⟩⟩ (by simp only; omega) ⟨rfl, rfl, congrArg (fun z => some (Value.slice oa' z oc')) e1.symm, congrArg (fun z => some (Value.slice da' z dc')) e2.symm, rfl, rfl, trivial⟩ (by simp [OSt.hp])
            · intro t htm
              rcases List.mem_append.1 htm with h | h
              · exact hs.outs t h
              · have : t = (Value.slice ba (blockS j M k).length bc, blockS j M k, bseg) := by simpa using h
                subst this; exact hown
            · rw [hs.same, hf', orderS_step hpk]; simp
            · have := hs.fuel; simp only [e2]; omega
            · have := hs.len; simp only [e1, e2]; omega
          · refine T.skip ?_
            refine TQ.block_n ?_
            refine TQ.then_n ?_
            refine T.region ?_
            refine TL.move hF rfl rfl ?_
            refine TL.add hF rfl rfl (by omega) (by omega) rfl ?_
            refine TL.assign hF rfl rfl ?_
            refine TL.nil ?_
            refine TQ.pop ?_
            refine TQ.round (k + 1, nx, s') ⟨by simp only; omega, .inl ⟨hnx, rfl, fun b hb => ?_⟩⟩ (by simp only; omega) ⟨rfl, rfl, rfl, rfl, rfl, rfl, trivial⟩ rfl
            by_cases hbk : b = k
            · subst hbk; exact ht59
            · exact hnr b (by simp only at hb; omega)
      · refine T.exit ?_
        refine TQ.then_x ?_
        refine TQ.then_x ?_
        refine TQ.block_x ?_
        refine TQ.block_n ?_
        have h2 : s'.Ok n M ∧ s.done.length < s'.done.length := by
          rcases hx with ⟨h1, _, _⟩ | ⟨h1, h2, h3⟩
          · exfalso; simp only at ht22; omega
          · exact ⟨h2, h3⟩
        have := h2.1.good.len
        exact TQ.round s' h2.1 (by omega) ⟨rfl, rfl, rfl, rfl, trivial⟩ rfl
    · refine TL.off hF rfl rfl rfl (decide_eq_false g6_19) rfl ?_
      refine TL.off hF rfl rfl rfl (decide_eq_false g6_19) rfl ?_
      refine TL.pickF hF rfl (decide_eq_false g6_19) rfl rfl ?_
      refine TL.nil ?_
      refine TQ.then_n ?_
      refine T.cond_f rfl rfl ?_
      refine T.exit ?_
      refine TQ.then_x ?_
      refine TQ.then_x ?_
      refine TQ.block_x ?_
      refine TQ.block_n ?_
      have h2 : s'.Ok n M ∧ s.done.length < s'.done.length := by
        rcases hx with ⟨h1, _, h3⟩ | ⟨h1, h2, h3⟩
        · exfalso
          obtain ⟨a0, ha0, had0⟩ := left_over (n := n) (done := s.done) (by omega)
          obtain ⟨a1, ha1, hr1⟩ := some_ready ht ha0 had0
          have := h3 a1 (by simp only at g6_19; omega)
          rw [hr1] at this; cases this
        · exact ⟨h2, h3⟩
      have := h2.1.good.len
      exact TQ.round s' h2.1 (by omega) ⟨rfl, rfl, rfl, rfl, trivial⟩ rfl
  · refine T.exit ?_
    refine TQ.then_x ?_
    refine TQ.then_x ?_
    refine TQ.block_x ?_
    refine TQ.then_n ?_
    refine T.seq ?_
    refine T.region ?_
    refine TL.move hF rfl rfl ?_
    refine TL.assign hF rfl rfl ?_
    refine TL.nil ?_
    refine TQ.then_n ?_
    refine T.ret ?_
    refine TQ.hsub ((s.outs.map (·.2.2) ++ [s.og]) ++ η) ?_ ?_
    · rw [List.append_assoc]; exact List.Sublist.append_left (by simp) _
    refine TQ.rets [4] _ rfl rfl rfl ?_
    have e : orderS n M n [] = s.outs.map (·.2.1) := by rw [hs.same, orderS_end (pick_end hs.good (by omega))]; simp
    rw [e]
    exact ⟨s.oa, s.oc, _, by simp [retVal], rfl, hs.lists⟩
/-- What 'Blocks' of the document hands over. -/
def blocksS (rels : Int) (rs : List RuleD) : List (List Nat) × Int :=
  if check rels rs ≠ 0 then ([], check rels rs)
  else if ordB rels.toNat (ED rs) (fwM (EU rs) rels.toNat) then (orderS rels.toNat (fwM (EU rs) rels.toNat) rels.toNat [], 0) else ([], 10)
theorem check_ok {rels : Int} {rs : List RuleD} (h : check rels rs = 0) : 1 ≤ rels ∧ rels ≤ 48 ∧ rs.length ≤ 60 ∧ errs rels rs = 0 := by
  unfold check at h
  split at h; · omega
  split at h; · omega
  split at h; · omega
  exact ⟨by omega, by omega, by omega, h⟩
theorem errs_ok {rels : Int} : ∀ {rs : List RuleD}, errs rels rs = 0 → ∀ r ∈ rs, checkR rels r = 0
  | [], _, r, hr => by simp at hr
  | x :: rs, h, r, hr => by
    unfold errs at h
    by_cases hx : checkR rels x = 0
    · rw [if_pos hx] at h
      rcases List.mem_cons.1 hr with rfl | hr
      · exact hx
      · exact errs_ok h r hr
    · rw [if_neg hx] at h; exact absurd h hx
theorem errs_body {rels : Int} {rs : List RuleD} (h : errs rels rs = 0) : ∀ r ∈ rs, r.body.length < 2 ^ 63 := fun r hr => by
  have := errs_ok h r hr
  unfold checkR at this
  split at this; · omega
  omega
theorem Lists.none : Lists S w0 η none [] := ⟨[], rfl, ⟨fun h => by simp at h, fun i v h => by simp at h⟩, fun i h => by simp at h⟩

set_option maxHeartbeats 2000000 in
theorem Blocks_fn {p : Option Addr} {rs : List RuleD} {c : Nat} (rels : Int) (hr : Rules S w0 [] p rs) (hl : rs.length < 2 ^ 63) :
    Rt Try.prog 11 [.int .i64 rels, .slice p rs.length c].toArray S w0 η (fun v η' => ∃ a cap segs, v = .tuple #[.slice a (blocksS rels rs).1.length cap, .int .i64 (blocksS rels rs).2] ∧ η' = segs ++ η ∧ OutL S w0 segs a (blocksS rels rs).1) := by
  have hF := open_wide
  refine Rt.of (fn := Try.f11) Try.func11 rfl rfl ?_
  refine T.seq ?_
  refine T.region ?_
  refine TL.assign hF rfl rfl ?_
  refine TL.assign hF rfl rfl ?_
  refine TL.nil ?_
  refine TQ.then_n ?_
  refine T.seq ?_
  refine T.seq ?_
  refine T.region ?_
  refine TL.move hF rfl rfl ?_
  refine TL.move hF rfl rfl ?_
  refine TL.callV hF (Check_fn rels hr.ro hl) rfl rfl ?_
  refine TL.assign hF rfl rfl ?_
  refine TL.nil ?_
  refine TQ.then_n ?_
  refine T.seq ?_
  refine T.region ?_
  refine TL.move hF rfl rfl ?_
  refine TL.bin hF rfl rfl rfl rfl ?_
  refine TL.nil ?_
  refine TQ.then_n ?_
  first | refine T.cond_d rfl (fun ht12 => ?_) (fun ht12 => ?_) | refine T.cond _ rfl (fun ht12 => ?_) (fun ht12 => ?_)
  · refine T.seq ?_
    refine T.region ?_
    refine TL.move hF rfl rfl ?_
    refine TL.assign hF rfl rfl ?_
    refine TL.assign hF rfl rfl ?_
    refine TL.nil ?_
    refine TQ.then_n ?_
    refine T.ret ?_
    refine TQ.then_r ?_
    refine TQ.rets [4, 5] _ rfl rfl rfl ?_
    have e : blocksS rels rs = ([], check rels rs) := by unfold blocksS; rw [if_pos ht12]
    rw [e]
    exact ⟨none, 0, [], rfl, rfl, Lists.none⟩
  · refine T.skip ?_
    refine TQ.then_n ?_
    refine T.seq ?_
    refine T.region ?_
    refine TL.move hF rfl rfl ?_
    refine TL.move hF rfl rfl ?_
    obtain ⟨hk1, hk2, hk3, hk4⟩ := check_ok (Classical.not_not.1 ht12)
    obtain ⟨n, rfl⟩ : ∃ n : Nat, rels = (n : Int) := ⟨rels.toNat, by omega⟩
    have hb := errs_body hk4
    refine TL.call hF (Leads_fn (n := n) hr hl hb (by omega)) rfl rfl ?_
    rintro _ _ ⟨ma, mcap, msg, rfl, rfl, hM⟩
    refine TL.assign hF rfl rfl ?_
    refine TL.nil ?_
    refine TQ.then_n ?_
    refine T.seq ?_
    refine T.seq ?_
    refine T.region ?_
    refine TL.move hF rfl rfl ?_
    refine TL.move hF rfl rfl ?_
    refine TL.move hF rfl rfl ?_
    refine TL.callV hF (ordered_fn hr hl hb (by omega) (hM.up upl)) rfl rfl ?_
    refine TL.not hF rfl rfl ?_
    refine TL.nil ?_
    refine TQ.then_n ?_
    refine T.cond _ rfl (fun ht21 => ?_) (fun ht21 => ?_)
    · refine T.seq ?_
      refine T.region ?_
      refine TL.assign hF rfl rfl ?_
      refine TL.assign hF rfl rfl ?_
      refine TL.nil ?_
      refine TQ.then_n ?_
      refine T.ret ?_
      refine TQ.then_r ?_
      refine TQ.hsub η (List.sublist_append_right _ _) ?_
      refine TQ.rets [4, 5] _ rfl rfl rfl ?_
      have e : blocksS n rs = ([], 10) := by unfold blocksS; rw [if_neg (by simpa using ht12), if_neg (by rw [Int.toNat_natCast]; simpa using ht21)]
      rw [e]
      exact ⟨none, 0, [], rfl, rfl, Lists.none⟩
    · refine T.skip ?_
      refine TQ.then_n ?_
      refine T.seq ?_
      refine T.region ?_
      refine TL.move hF rfl rfl ?_
      refine TL.move hF rfl rfl ?_
      refine TL.call hF (Order_fn (by omega) (hM.up upl) (fw_TransM _ n)) rfl rfl ?_
      rintro _ _ ⟨oa, ocap, osg, rfl, rfl, hO⟩
      refine TL.assign hF rfl rfl ?_
      refine TL.assign hF rfl rfl ?_
      refine TL.nil ?_
      refine TQ.then_n ?_
      refine T.ret ?_
      refine TQ.hsub (osg ++ η) (List.Sublist.append_left (List.sublist_append_right _ _) _) ?_
      refine TQ.rets [4, 5] _ rfl rfl rfl ?_
      have e : blocksS n rs = (orderS n (fwM (EU rs) n) n [], 0) := by unfold blocksS; rw [if_neg (by simpa using ht12), if_pos (by rw [Int.toNat_natCast]; simpa using ht21), Int.toNat_natCast]
      rw [e]
      exact ⟨oa, ocap, osg, rfl, rfl, hO⟩
end Go.Proofs.Ytdehpaikapbckaa
/- How far relations are from one: plain Lean. -/
namespace Go.Proofs.Ytdehpaikapbckaa
structure IsDist (E : Nat → Nat → Bool) (n t : Nat) (d : Nat → Int) : Prop where
  z : d t = 0
  lo : ∀ a, a < n → -1 ≤ d a
  zt : ∀ a, a < n → d a = 0 → a = t
  dn : ∀ a, a < n → 0 < d a → ∃ b, b < n ∧ E a b = true ∧ d b = d a - 1
  up : ∀ a b, a < n → b < n → E a b = true → 0 ≤ d b → 0 ≤ d a ∧ d a ≤ d b + 1
theorem IsDist.le {E : Nat → Nat → Bool} {n t : Nat} {d d' : Nat → Int} (ht : t < n) (h : IsDist E n t d) (h' : IsDist E n t d') : ∀ (k : Nat) (a : Nat), a < n → d a = k → 0 ≤ d' a ∧ d' a ≤ d a := by
  intro k
  induction k with
  | zero => intro a ha hd; have := h.zt a ha (by simpa using hd); subst this; rw [h'.z, h.z]; omega
  | succ k ih =>
    intro a ha hd
    obtain ⟨b, hb, he, hdb⟩ := h.dn a ha (by omega)
    have h1 := ih b hb (by omega)
    have h2 := h'.up a b ha hb he h1.1
    omega
theorem IsDist.eq {E : Nat → Nat → Bool} {n t : Nat} {d d' : Nat → Int} (ht : t < n) (h : IsDist E n t d) (h' : IsDist E n t d') {a : Nat} (ha : a < n) : d a = d' a := by
  have l1 := h.lo a ha
  have l2 := h'.lo a ha
  by_cases h1 : 0 ≤ d a
  · have h2 := IsDist.le ht h h' (d a).toNat a ha (by omega)
    have h3 := IsDist.le ht h' h (d' a).toNat a ha (by omega)
    omega
  · by_cases h2 : 0 ≤ d' a
    · have h3 := IsDist.le ht h' h (d' a).toNat a ha (by omega)
      omega
    · omega
/-- After so many rounds. -/
def hasN (n : Nat) (p : Nat → Bool) : Bool := (List.range n).any p
theorem hasN_iff {n : Nat} {p : Nat → Bool} : hasN n p = true ↔ ∃ b, b < n ∧ p b = true := by simp [hasN]
def levS (E : Nat → Nat → Bool) (n t : Nat) : Nat → Nat → Int
  | 0, a => if a = t then 0 else -1
  | r + 1, a => if levS E n t r a < 0 ∧ hasN n (fun b => decide (levS E n t r b = r) && E a b) = true then (r : Int) + 1 else levS E n t r a
def distS (E : Nat → Nat → Bool) (n t a : Nat) : Int := levS E n t n a
theorem levS_le {E : Nat → Nat → Bool} {n t : Nat} : ∀ (r a : Nat), -1 ≤ levS E n t r a ∧ levS E n t r a ≤ r := by
  intro r
  induction r with
  | zero => intro a; simp only [levS]; split <;> omega
  | succ r ih => intro a; have := ih a; simp only [levS]; split <;> omega
theorem levS_keep {E : Nat → Nat → Bool} {n t r a : Nat} (h : 0 ≤ levS E n t r a) : ∀ {s : Nat}, r ≤ s → levS E n t s a = levS E n t r a := by
  intro s hs
  induction s with
  | zero => have : r = 0 := by omega
            subst this; rfl
  | succ s ih =>
    rcases Nat.lt_or_ge s r with h1 | h1
    · have : r = s + 1 := by omega
      subst this; rfl
    · have := ih h1
      simp only [levS]
      rw [if_neg (by omega), this]
/-- What has the number k had it behind k rounds. -/
theorem levS_at {E : Nat → Nat → Bool} {n t : Nat} : ∀ {r a : Nat} {k : Nat}, levS E n t r a = k → levS E n t k a = k := by
  intro r
  induction r with
  | zero =>
    intro a k h
    have := levS_le (E := E) (n := n) (t := t) 0 a
    have : k = 0 := by omega
    subst this; exact h
  | succ r ih =>
    intro a k h
    have h' := h
    simp only [levS] at h'
    split at h'
    · have : k = r + 1 := by omega
      subst this; exact h
    · exact ih h'
theorem levS_down {E : Nat → Nat → Bool} {n t a k : Nat} (h : levS E n t (k + 1) a = (k : Int) + 1) : ∃ b, b < n ∧ E a b = true ∧ levS E n t k b = k := by
  simp only [levS] at h
  split at h
  · rename_i h1
    obtain ⟨b, hb, h2⟩ := hasN_iff.1 h1.2
    simp only [Bool.and_eq_true, decide_eq_true_eq] at h2
    exact ⟨b, hb, h2.2, h2.1⟩
  · have := levS_le (E := E) (n := n) (t := t) k a
    omega
theorem levS_chain {E : Nat → Nat → Bool} {n t : Nat} : ∀ {k a : Nat}, levS E n t k a = k → ∀ j, j < k → ∃ b, b < n ∧ levS E n t j b = j := by
  intro k
  induction k with
  | zero => intro a _ j hj; omega
  | succ k ih =>
    intro a h j hj
    obtain ⟨b, hb, _, h2⟩ := levS_down (by simpa using h)
    by_cases hjk : j = k
    · subst hjk; exact ⟨b, hb, h2⟩
    · exact ih h2 j (by omega)
theorem levS_lt {E : Nat → Nat → Bool} {n t a : Nat} (ha : a < n) : levS E n t n a < n := by
  have h0 := levS_le (E := E) (n := n) (t := t) n a
  apply Classical.byContradiction
  intro hc
  have hn : levS E n t n a = n := by omega
  have hex : ∀ j, j < n + 1 → ∃ b, b < n ∧ levS E n t j b = j := fun j hj => by
    by_cases h1 : j = n
    · subst h1; exact ⟨a, ha, hn⟩
    · exact levS_chain hn j (by omega)
  let f : Nat → Nat := fun j => if h : j < n + 1 then Classical.choose (hex j h) else 0
  have hf : ∀ j, j < n + 1 → f j < n ∧ levS E n t j (f j) = j := fun j hj => by
    have := Classical.choose_spec (hex j hj)
    simp only [f, dif_pos hj]; exact this
  have hnd : ((List.range (n + 1)).map f).Nodup := by
    rw [List.Nodup, List.pairwise_map]
    refine List.Pairwise.imp_of_mem ?_ (List.nodup_range (n := n + 1))
    intro x y hx hy hne he
    have h1 := hf x (by simpa using hx)
    have h2 := hf y (by simpa using hy)
    rw [he] at h1
    have e1 := levS_keep (E := E) (n := n) (t := t) (r := x) (a := f y) (by omega) (s := max x y) (by omega)
    have e2 := levS_keep (E := E) (n := n) (t := t) (r := y) (a := f y) (by omega) (s := max x y) (by omega)
    omega
  have := hnd.length_le_of_subset (l₂ := List.range n) (fun b hb => by
    obtain ⟨j, hj, rfl⟩ := List.mem_map.1 hb
    have := (hf j (by simpa using hj)).1
    simpa using this)
  simp at this; omega
theorem distS_is {E : Nat → Nat → Bool} {n t : Nat} (_ht : t < n) : IsDist E n t (distS E n t) := by
  have key : ∀ a, 0 ≤ levS E n t n a → levS E n t (levS E n t n a).toNat a = levS E n t n a := fun a h => by
    have := levS_at (E := E) (n := n) (t := t) (r := n) (a := a) (k := (levS E n t n a).toNat) (by omega)
    omega
  refine ⟨?_, fun a _ => (levS_le n a).1, ?_, ?_, ?_⟩
  · have := levS_keep (E := E) (n := n) (t := t) (r := 0) (a := t) (by simp [levS]) (s := n) (by omega)
    unfold distS; rw [this]; simp [levS]
  · intro a _ h
    have := key a (by unfold distS at h; omega)
    unfold distS at h
    rw [h] at this
    simp only [Int.toNat_zero, levS] at this
    split at this
    · assumption
    · omega
  · intro a ha h
    unfold distS at h ⊢
    have h1 := key a (by omega)
    obtain ⟨k, hk⟩ : ∃ k : Nat, levS E n t n a = (k : Int) + 1 := ⟨(levS E n t n a).toNat - 1, by omega⟩
    rw [hk] at h1
    have e : ((k : Int) + 1).toNat = k + 1 := by omega
    rw [e] at h1
    obtain ⟨b, hb, he, h2⟩ := levS_down h1
    refine ⟨b, hb, he, ?_⟩
    have := levS_le (E := E) (n := n) (t := t) n a
    rw [levS_keep (by omega) (show k ≤ n by omega), h2, hk]; omega
  · intro a b ha hb he h
    unfold distS at h ⊢
    have h1 := key b h
    have hlt := levS_lt (E := E) (n := n) (t := t) hb
    obtain ⟨k, hk⟩ : ∃ k : Nat, levS E n t n b = (k : Int) := ⟨(levS E n t n b).toNat, by omega⟩
    rw [hk] at h1 hlt ⊢
    rw [Int.toNat_natCast] at h1
    have h2 : 0 ≤ levS E n t (k + 1) a ∧ levS E n t (k + 1) a ≤ k + 1 := by
      have := levS_le (E := E) (n := n) (t := t) (k + 1) a
      refine ⟨?_, by omega⟩
      simp only [levS]
      split
      · omega
      · rename_i hx
        apply Classical.byContradiction
        intro hc
        exact hx ⟨by omega, hasN_iff.2 ⟨b, hb, by simp [h1, he]⟩⟩
    rw [levS_keep h2.1 (show k + 1 ≤ n by omega)]
    exact h2
/-- The next one on the way, and the way. -/
def nextS (E : Nat → Nat → Bool) (n : Nat) (d : Nat → Int) (r : Nat) : Nat := ((List.range n).find? fun b => decide (d b = d r - 1) && E r b).getD 0
def wayS (E : Nat → Nat → Bool) (n : Nat) (d : Nat → Int) : Nat → Nat → List Nat
  | 0, _ => []
  | k + 1, r => r :: wayS E n d k (nextS E n d r)
theorem wayS_len (E : Nat → Nat → Bool) (n : Nat) (d : Nat → Int) : ∀ k r, (wayS E n d k r).length = k := by
  intro k
  induction k with
  | zero => intro r; rfl
  | succ k ih => intro r; simp [wayS, ih]
theorem find_is {n : Nat} {p : Nat → Bool} {a : Nat} (ha : a < n) (hr : p a = true) (hl : ∀ b, b < a → p b = false) : (List.range n).find? p = some a := by
  rw [List.find?_eq_some_iff_append]
  refine ⟨hr, List.range a, (List.range' (a + 1) (n - a - 1)), ?_, ?_⟩
  · have e : n = a + (1 + (n - a - 1)) := by omega
    conv => lhs; rw [e, List.range_add]
    congr 1
    rw [show 1 + (n - a - 1) = (n - a - 1) + 1 by omega, List.range_succ_eq_map]
    simp [List.range'_eq_map_range, Nat.add_comm, Nat.add_left_comm, Function.comp_def]
  · intro b hb
    have := hl b (by simpa using hb)
    simp [this]
theorem nextS_is {E : Nat → Nat → Bool} {n : Nat} {d : Nat → Int} {r a : Nat} (ha : a < n) (hr : d a = d r - 1 ∧ E r a = true) (hl : ∀ b, b < a → ¬ (d b = d r - 1 ∧ E r b = true)) : nextS E n d r = a := by
  unfold nextS
  rw [find_is ha (by simp [hr.1, hr.2]) (fun b hb => ?_)]
  · rfl
  · rw [Bool.eq_false_iff]; intro h
    simp only [Bool.and_eq_true, decide_eq_true_eq] at h
    exact hl b hb h
/-- A cycle of denial by a denial of b in a. -/
def candS (E : Nat → Nat → Bool) (n a b : Nat) : List Nat := a :: wayS E n (distS E n a) (distS E n a b).toNat b
def casts (l : List Nat) : List Int := l.map fun (b : Nat) => (b : Int)
def betterS (best c : List Nat) : List Nat := if best.length = 0 ∨ less (casts c) (casts best) = true then c else best
def tryS (E D : Nat → Nat → Bool) (n a : Nat) (best : List Nat) (b : Nat) : List Nat := if D a b = true ∧ 0 ≤ distS E n a b then betterS best (candS E n a b) else best
def rowS (E D : Nat → Nat → Bool) (n a : Nat) (best : List Nat) (j : Nat) : List Nat := (List.range j).foldl (tryS E D n a) best
def bestS (E D : Nat → Nat → Bool) (n k : Nat) : List Nat := (List.range k).foldl (fun best a => rowS E D n a best n) []
theorem rowS_succ (E D : Nat → Nat → Bool) (n a : Nat) (best : List Nat) (j : Nat) : rowS E D n a best (j + 1) = tryS E D n a (rowS E D n a best j) j := by
  unfold rowS; rw [List.range_succ, List.foldl_append]; rfl
theorem bestS_succ (E D : Nat → Nat → Bool) (n k : Nat) : bestS E D n (k + 1) = rowS E D n k (bestS E D n k) n := by
  unfold bestS; rw [List.range_succ, List.foldl_append]; rfl
theorem tryS_len {E D : Nat → Nat → Bool} {n a b : Nat} {best : List Nat} (ha : a < n) (hb : b < n) (h : best.length ≤ n) : (tryS E D n a best b).length ≤ n := by
  unfold tryS; split
  · unfold betterS; split
    · have := levS_lt (E := E) (n := n) (t := a) hb
      simp only [candS, List.length_cons, wayS_len]; unfold distS; omega
    · exact h
  · exact h
end Go.Proofs.Ytdehpaikapbckaa
/- The reference's ways and cycles. -/
namespace Go.Proofs.Ytdehpaikapbckaa
open Go.Sl
variable {S : Nat → Prop} {w0 : World} {η : Heap}
def intC (n : Nat) (f : Nat → Int) : List Value := (List.range n).map fun j => .int .i64 (f j)
theorem intC_len (n : Nat) (f : Nat → Int) : (intC n f).length = n := by simp [intC]
theorem intC_get {n : Nat} {f : Nat → Int} {j : Nat} (h : j < n) : (intC n f)[j]? = some (.int .i64 (f j)) := by simp [intC, h]
theorem intC_congr {n : Nat} {f g : Nat → Int} (h : ∀ j, j < n → f j = g j) : intC n f = intC n g := by
  unfold intC; apply List.map_congr_left; intro j hj; rw [h j (by simpa using hj)]
theorem intC_zero (n : Nat) : List.replicate n (Value.int .i64 0) = intC n fun _ => 0 := by
  apply List.ext_getElem?; intro i; simp only [intC, List.getElem?_map]
  by_cases h : i < n
  · rw [List.getElem?_replicate_of_lt h]; simp [h]
  · simp [h]
theorem intC_set {n : Nat} {f g : Nat → Int} {j : Nat} {v : Int} (h : ∀ i, i < n → g i = if i = j then v else f i) : (intC n f).toArray.setIfInBounds j (.int .i64 v) = (intC n g).toArray := by
  apply Array.ext'
  simp only [Array.toList_setIfInBounds]
  apply List.ext_getElem?
  intro i
  rw [List.getElem?_set]
  by_cases hi : i < n
  · rw [intC_get hi, intC_get hi, h i hi]
    by_cases hj : j = i
    · subst hj; simp [intC_len, hi]
    · simp [hj, Ne.symm hj]
  · have h1 : (intC n f)[i]? = none := by simp [intC]; omega
    have h2 : (intC n g)[i]? = none := by simp [intC]; omega
    rw [h1, h2]
    by_cases hj : j = i
    · subst hj; simp [intC_len, hi]
    · simp [hj]
/-- An owned list of n numbers. -/
abbrev iseg (b n : Nat) (f : Nat → Int) : Seg := [(b, .cells (intC n f).toArray 3 (0, 0))]
theorem iseg_at {b n j : Nat} {f : Nat → Int} (h : iseg b n f ∈ η) (hj : j < n) : At S w0 η (sAt (some ⟨b, 0, none⟩) (j * 1)) (.int .i64 (f j)) := by
  rw [Nat.mul_one]; exact (row_own h).cell j _ (intC_get hj)
theorem iseg_set {b n j k : Nat} {f g : Nat → Int} {v : Int} {r : Heap} (hk : k = j) (h : ∀ i, i < n → g i = if i = j then v else f i) : [(b, Obj.cells ((intC n f).toArray.setIfInBounds k (.int .i64 v)) 3 (0, 0))] :: r = iseg b n g :: r := by
  subst hk; rw [intC_set h]
theorem iseg_congr {b n : Nat} {f g : Nat → Int} {r : Heap} (h : ∀ i, i < n → f i = g i) : iseg b n f :: r = iseg b n g :: r := by rw [iseg, iseg, intC_congr h]
/-- Round r of the distances, at a, b. -/
def mlev (E : Nat → Nat → Bool) (n t r a b i : Nat) : Int :=
  if i < a then levS E n t (r + 1) i else if i = a ∧ levS E n t r i < 0 ∧ hasN b (fun b' => decide (levS E n t r b' = r) && E i b') = true then (r : Int) + 1 else levS E n t r i
theorem hasN_succ (n : Nat) (p : Nat → Bool) : hasN (n + 1) p = (hasN n p || p n) := by unfold hasN; rw [List.range_succ, List.any_append]; simp
theorem mlev_r {E : Nat → Nat → Bool} {n t r a b i : Nat} : mlev E n t r a b i = r ↔ levS E n t r i = r := by
  have := levS_le (E := E) (n := n) (t := t) r i
  unfold mlev; split
  · simp only [levS]; split <;> omega
  · split <;> omega
theorem mlev_row {E : Nat → Nat → Bool} {n t r a i : Nat} : mlev E n t r a n i = mlev E n t r (a + 1) 0 i := by
  unfold mlev
  by_cases h : i < a
  · rw [if_pos h, if_pos (by omega)]
  · rw [if_neg h]
    by_cases h2 : i = a
    · subst h2; rw [if_pos (show i < i + 1 by omega)]; simp only [levS, true_and]
    · have h0 : hasN 0 (fun b' => decide (levS E n t r b' = r) && E i b') = false := rfl
      rw [if_neg (by omega), if_neg (by omega), if_neg (by rw [h0]; simp)]
theorem mlev_here {E : Nat → Nat → Bool} {n t r a b : Nat} : mlev E n t r a (b + 1) a = if mlev E n t r a b a < 0 ∧ mlev E n t r a b b = r ∧ E a b = true then (r : Int) + 1 else mlev E n t r a b a := by
  simp only [mlev_r]
  unfold mlev
  simp only [Nat.lt_irrefl, if_false, true_and]
  rw [hasN_succ]
  by_cases h1 : levS E n t r a < 0
  · by_cases h2 : hasN b (fun b' => decide (levS E n t r b' = r) && E a b') = true
    · simp [h1, h2]
    · simp only [h2, Bool.false_or, h1, true_and, Bool.and_eq_true, decide_eq_true_eq, Bool.false_eq_true, if_false]
  · simp [h1]
theorem mlev_else {E : Nat → Nat → Bool} {n t r a b b' i : Nat} (h : i ≠ a) : mlev E n t r a b i = mlev E n t r a b' i := by
  unfold mlev; simp [h]

set_option maxHeartbeats 2000000 in
theorem far_fn {p : Option Addr} {rs : List RuleD} {c n t : Nat} (hr : Rules S w0 [] p rs) (hl : rs.length < 2 ^ 63) (hb : ∀ r ∈ rs, r.body.length < 2 ^ 63) (hn : n ≤ 1000) (htn : t < n) :
    Rt Try.prog 40 [.int .i64 (n : Int), .slice p rs.length c, .int .i64 (t : Int)].toArray S w0 η (fun v η' => ∃ b, v = .slice (some ⟨b, 0, none⟩) n n ∧ η' = iseg b n (distS (EU rs) n t) :: η) := by
  have hF := open_wide
  refine Rt.of (fn := Try.f40) Try.func40 rfl rfl ?_
  refine T.seq ?_
  refine T.region ?_
  refine TL.assign hF rfl rfl ?_
  refine TL.nil ?_
  refine TQ.then_n ?_
  refine T.seq ?_
  refine T.region ?_
  refine TL.move hF rfl rfl ?_
  refine TL.makeSlice hF (k := n) rfl rfl rfl (by omega) (by omega) rfl (fun b13 => ?_)
  refine TL.assign hF rfl rfl ?_
  refine TL.nil ?_
  refine TQ.then_n ?_
  refine T.seq ?_
  refine T.seq ?_
  refine T.region ?_
  refine TL.assign hF rfl rfl ?_
  refine TL.nil ?_
  refine TQ.then_n ?_
  refine T.block ?_
  refine T.loop (ι := Nat) (fun k => k ≤ n) (fun k => [(0, .int .i64 (n : Int)), (1, .slice p rs.length c), (2, .int .i64 (t : Int)), (7, .slice (some ⟨b13, 0, none⟩) n n), (8, .int .i64 (k : Int))]) (fun k => iseg b13 n (fun i => if i < k then -1 else 0) :: η) (fun k => n - k) 0 (Nat.zero_le _) ⟨rfl, rfl, rfl, rfl, rfl, trivial⟩ (by rw [intC_zero]; rfl) ?_
  rintro k hk
  refine T.seq ?_
  refine T.seq ?_
  refine T.region ?_
  refine TL.move hF rfl rfl ?_
  refine TL.move hF rfl rfl ?_
  refine TL.bin hF rfl rfl rfl rfl ?_
  refine TL.nil ?_
  refine TQ.then_n ?_
  first | refine T.cond_d rfl (fun ht16 => ?_) (fun ht16 => ?_) | refine T.cond _ rfl (fun ht16 => ?_) (fun ht16 => ?_)
  · refine T.skip ?_
    refine TQ.then_n ?_
    refine T.seq ?_
    refine T.block ?_
    refine T.region ?_
    refine TL.move hF rfl rfl ?_
    refine TL.move hF rfl rfl ?_
    refine TL.indexAddr hF rfl rfl ⟨_, rfl, rfl⟩ (by omega) (by omega) rfl ?_
    refine TL.storeI hF 0 rfl rfl rfl rfl (by simp [intC_len]; omega) ?_
    refine TL.nil ?_
    refine TQ.block_n ?_
    refine TQ.then_n ?_
    refine T.region ?_
    refine TL.move hF rfl rfl ?_
    refine TL.add hF rfl rfl (by omega) (by omega) rfl ?_
    refine TL.assign hF rfl rfl ?_
    refine TL.nil ?_
    refine TQ.round (k + 1) (by omega) (by omega) ⟨rfl, rfl, rfl, rfl, rfl, trivial⟩ (iseg_set (j := k) (by simp) (fun i hi => by by_cases h : i = k <;> simp [h]; omega))
  · refine T.exit ?_
    refine TQ.then_x ?_
    refine TQ.then_x ?_
    refine TQ.block_x ?_
    refine TQ.then_n ?_
    refine T.seq ?_
    refine T.region ?_
    refine TL.move hF rfl rfl ?_
    refine TL.move hF rfl rfl ?_
    refine TL.indexAddr hF rfl rfl ⟨_, rfl, rfl⟩ (by omega) (by omega) rfl ?_
    refine TL.storeI hF 0 rfl rfl rfl rfl (by simp [intC_len]; omega) ?_
    refine TL.nil ?_
    refine TQ.then_n ?_
    refine T.seq ?_
    refine T.seq ?_
    refine T.region ?_
    refine TL.assign hF rfl rfl ?_
    refine TL.nil ?_
    refine TQ.then_n ?_
    refine T.block ?_
    refine T.loop (ι := Nat) (fun k => k ≤ n) (fun k => [(0, .int .i64 (n : Int)), (1, .slice p rs.length c), (2, .int .i64 (t : Int)), (7, .slice (some ⟨b13, 0, none⟩) n n), (9, .int .i64 (k : Int))]) (fun k => iseg b13 n (levS (EU rs) n t k) :: η) (fun k => n - k) 0 (Nat.zero_le _) ⟨rfl, rfl, rfl, rfl, rfl, trivial⟩ (iseg_set (j := t) (by simp) (fun i hi => by simp only [levS]; split; rfl; rw [if_pos (by omega)])) ?_
    rintro r hr2
    refine T.seq ?_
    refine T.seq ?_
    refine T.region ?_
    refine TL.move hF rfl rfl ?_
    refine TL.move hF rfl rfl ?_
    refine TL.bin hF rfl rfl rfl rfl ?_
    refine TL.nil ?_
    refine TQ.then_n ?_
    first | refine T.cond_d rfl (fun ht27 => ?_) (fun ht27 => ?_) | refine T.cond _ rfl (fun ht27 => ?_) (fun ht27 => ?_)
    · refine T.skip ?_
      refine TQ.then_n ?_
      refine T.seq ?_
      refine T.block ?_
      refine T.seq ?_
      refine T.region ?_
      refine TL.assign hF rfl rfl ?_
      refine TL.nil ?_
      refine TQ.then_n ?_
      refine T.block ?_
      refine T.loop (ι := Nat) (fun k => k ≤ n) (fun k => [(0, .int .i64 (n : Int)), (1, .slice p rs.length c), (2, .int .i64 (t : Int)), (7, .slice (some ⟨b13, 0, none⟩) n n), (9, .int .i64 (r : Int)), (10, .int .i64 (k : Int))]) (fun k => iseg b13 n (mlev (EU rs) n t r k 0) :: η) (fun k => n - k) 0 (Nat.zero_le _) ⟨rfl, rfl, rfl, rfl, rfl, rfl, trivial⟩ (iseg_congr (fun i _ => by simp [mlev, hasN])) ?_
      rintro q hq
      refine T.seq ?_
      refine T.seq ?_
      refine T.region ?_
      refine TL.move hF rfl rfl ?_
      refine TL.move hF rfl rfl ?_
      refine TL.bin hF rfl rfl rfl rfl ?_
      refine TL.nil ?_
      refine TQ.then_n ?_
      first | refine T.cond_d rfl (fun ht32 => ?_) (fun ht32 => ?_) | refine T.cond _ rfl (fun ht32 => ?_) (fun ht32 => ?_)
      · refine T.skip ?_
        refine TQ.then_n ?_
        refine T.seq ?_
        refine T.block ?_
        refine T.seq ?_
        refine T.region ?_
        refine TL.assign hF rfl rfl ?_
        refine TL.nil ?_
        refine TQ.then_n ?_
        refine T.block ?_
        refine T.loop (ι := Nat) (fun k => k ≤ n) (fun k => [(0, .int .i64 (n : Int)), (1, .slice p rs.length c), (2, .int .i64 (t : Int)), (7, .slice (some ⟨b13, 0, none⟩) n n), (9, .int .i64 (r : Int)), (10, .int .i64 (q : Int)), (11, .int .i64 (k : Int))]) (fun k => iseg b13 n (mlev (EU rs) n t r q k) :: η) (fun k => n - k) 0 (Nat.zero_le _) ⟨rfl, rfl, rfl, rfl, rfl, rfl, rfl, trivial⟩ rfl ?_
        rintro j hj
        refine T.seq ?_
        refine T.seq ?_
        refine T.region ?_
        refine TL.move hF rfl rfl ?_
        refine TL.move hF rfl rfl ?_
        refine TL.bin hF rfl rfl rfl rfl ?_
        refine TL.nil ?_
        refine TQ.then_n ?_
        first | refine T.cond_d rfl (fun ht37 => ?_) (fun ht37 => ?_) | refine T.cond _ rfl (fun ht37 => ?_) (fun ht37 => ?_)
        · refine T.skip ?_
          refine TQ.then_n ?_
          refine T.seq ?_
          refine T.block ?_
          refine T.seq ?_
          refine T.region ?_
          refine TL.move hF rfl rfl ?_
          refine TL.move hF rfl rfl ?_
          refine TL.indexAddr hF rfl rfl ⟨_, rfl, rfl⟩ (by omega) (by omega) rfl ?_
          refine TL.load hF rfl (iseg_at (j := q) List.mem_cons_self (by omega)) rfl ?_
          refine TL.bin hF rfl rfl rfl rfl ?_
          refine TL.move hF rfl rfl ?_
          refine TL.gd (t := 45) rfl (fun g16_45 => ?_) (fun g16_45 => ?_)
          · refine TL.on rfl rfl rfl (decide_eq_true g16_45) ?_
            refine TL.move hF rfl rfl ?_
            refine TL.on rfl rfl rfl (decide_eq_true g16_45) ?_
            refine TL.move hF rfl rfl ?_
            refine TL.on rfl rfl rfl (decide_eq_true g16_45) ?_
            refine TL.indexAddr hF rfl rfl ⟨_, rfl, rfl⟩ (by omega) (by omega) rfl ?_
            refine TL.on rfl rfl rfl (decide_eq_true g16_45) ?_
            refine TL.load hF rfl (iseg_at (j := j) List.mem_cons_self (by omega)) rfl ?_
            refine TL.on rfl rfl rfl (decide_eq_true g16_45) ?_
            refine TL.move hF rfl rfl ?_
            refine TL.on rfl rfl rfl (decide_eq_true g16_45) ?_
            refine TL.bin hF rfl rfl rfl rfl ?_
            refine TL.pickT hF rfl (decide_eq_true g16_45) rfl rfl ?_
            refine TL.move hF rfl rfl ?_
            refine TL.gd (t := 53) rfl (fun g16_53 => ?_) (fun g16_53 => ?_)
            · refine TL.on rfl rfl rfl (decide_eq_true g16_53) ?_
              refine TL.move hF rfl rfl ?_
              refine TL.on rfl rfl rfl (decide_eq_true g16_53) ?_
              refine TL.move hF rfl rfl ?_
              refine TL.on rfl rfl rfl (decide_eq_true g16_53) ?_
              refine TL.move hF rfl rfl ?_
              refine TL.on rfl rfl rfl (decide_eq_true g16_53) ?_
              refine TL.callV hF (Uses_fn q j false hr hl hb) rfl rfl ?_
              refine TL.pickT hF rfl (decide_eq_true g16_53) rfl rfl ?_
              refine TL.nil ?_
              refine TQ.then_n ?_
              refine T.cond _ rfl (fun ht58 => ?_) (fun ht58 => ?_)
              · refine T.region ?_
                refine TL.move hF rfl rfl ?_
                refine TL.move hF rfl rfl ?_
                refine TL.move hF rfl rfl ?_
                refine TL.add hF rfl rfl (by omega) (by omega) rfl ?_
                refine TL.indexAddr hF rfl rfl ⟨_, rfl, rfl⟩ (by omega) (by omega) rfl ?_
                refine TL.storeI hF 0 rfl rfl rfl rfl (by simp [intC_len]; omega) ?_
                refine TL.nil ?_
                refine TQ.block_n ?_
                refine TQ.then_n ?_
                refine T.region ?_
                refine TL.move hF rfl rfl ?_
                refine TL.add hF rfl rfl (by omega) (by omega) rfl ?_
                refine TL.assign hF rfl rfl ?_
                refine TL.nil ?_
                refine TQ.round (j + 1) (by omega) (by omega) ⟨rfl, rfl, rfl, rfl, rfl, rfl, rfl, trivial⟩ (iseg_set (j := q) (by simp) (fun i hi => ?_))
                by_cases hiq : i = q
                · subst hiq; rw [if_pos rfl, mlev_here, if_pos ⟨g16_45, g16_53, ht58⟩]
                · rw [if_neg hiq, mlev_else hiq]
              · refine T.skip ?_
                refine TQ.block_n ?_
                refine TQ.then_n ?_
                refine T.region ?_
                refine TL.move hF rfl rfl ?_
                refine TL.add hF rfl rfl (by omega) (by omega) rfl ?_
                refine TL.assign hF rfl rfl ?_
                refine TL.nil ?_
                refine TQ.round (j + 1) (by omega) (by omega) ⟨rfl, rfl, rfl, rfl, rfl, rfl, rfl, trivial⟩ (iseg_congr (fun i hi => ?_))
                by_cases hiq : i = q
                · subst hiq; rw [mlev_here, if_neg (by rintro ⟨h1, h2, h3⟩; first | omega | simp_all)]
                · rw [mlev_else hiq]
            · refine TL.off hF rfl rfl rfl (decide_eq_false g16_53) rfl ?_
              refine TL.off hF rfl rfl rfl (decide_eq_false g16_53) rfl ?_
              refine TL.off hF rfl rfl rfl (decide_eq_false g16_53) rfl ?_
              refine TL.off hF rfl rfl rfl (decide_eq_false g16_53) rfl ?_
              refine TL.pickF hF rfl (decide_eq_false g16_53) rfl rfl ?_
              refine TL.nil ?_
              refine TQ.then_n ?_
              refine T.cond_f rfl rfl ?_
              refine T.skip ?_
              refine TQ.block_n ?_
              refine TQ.then_n ?_
              refine T.region ?_
              refine TL.move hF rfl rfl ?_
              refine TL.add hF rfl rfl (by omega) (by omega) rfl ?_
              refine TL.assign hF rfl rfl ?_
              refine TL.nil ?_
              refine TQ.round (j + 1) (by omega) (by omega) ⟨rfl, rfl, rfl, rfl, rfl, rfl, rfl, trivial⟩ (iseg_congr (fun i hi => ?_))
              by_cases hiq : i = q
              · subst hiq; rw [mlev_here, if_neg (by rintro ⟨h1, h2, h3⟩; first | omega | simp_all)]
              · rw [mlev_else hiq]
          · refine TL.off hF rfl rfl rfl (decide_eq_false g16_45) rfl ?_
            refine TL.off hF rfl rfl rfl (decide_eq_false g16_45) rfl ?_
            refine TL.off hF rfl rfl rfl (decide_eq_false g16_45) rfl ?_
            refine TL.off hF rfl rfl rfl (decide_eq_false g16_45) rfl ?_
            refine TL.off hF rfl rfl rfl (decide_eq_false g16_45) rfl ?_
            refine TL.off hF rfl rfl rfl (decide_eq_false g16_45) rfl ?_
            refine TL.pickF hF rfl (decide_eq_false g16_45) rfl rfl ?_
            refine TL.move hF rfl rfl ?_
            refine TL.off hF rfl rfl rfl rfl rfl ?_
            refine TL.off hF rfl rfl rfl rfl rfl ?_
            refine TL.off hF rfl rfl rfl rfl rfl ?_
            refine TL.off hF rfl rfl rfl rfl rfl ?_
            refine TL.pickF hF rfl rfl rfl rfl ?_
            refine TL.nil ?_
            refine TQ.then_n ?_
            refine T.cond_f rfl rfl ?_
            refine T.skip ?_
            refine TQ.block_n ?_
            refine TQ.then_n ?_
            refine T.region ?_
            refine TL.move hF rfl rfl ?_
            refine TL.add hF rfl rfl (by omega) (by omega) rfl ?_
            refine TL.assign hF rfl rfl ?_
            refine TL.nil ?_
            refine TQ.round (j + 1) (by omega) (by omega) ⟨rfl, rfl, rfl, rfl, rfl, rfl, rfl, trivial⟩ (iseg_congr (fun i hi => ?_))
            by_cases hiq : i = q
            · subst hiq; rw [mlev_here, if_neg (by rintro ⟨h1, h2, h3⟩; first | omega | simp_all)]
            · rw [mlev_else hiq]
        · refine T.exit ?_
          refine TQ.then_x ?_
          refine TQ.then_x ?_
          refine TQ.block_x ?_
          refine TQ.block_n ?_
          refine TQ.then_n ?_
          refine T.region ?_
          refine TL.move hF rfl rfl ?_
          refine TL.add hF rfl rfl (by omega) (by omega) rfl ?_
          refine TL.assign hF rfl rfl ?_
          refine TL.nil ?_
          have hjn : j = n := by omega
          subst hjn
          exact TQ.round (q + 1) (by omega) (by omega) ⟨rfl, rfl, rfl, rfl, rfl, rfl, trivial⟩ (iseg_congr (fun i hi => mlev_row))
      · refine T.exit ?_
        refine TQ.then_x ?_
        refine TQ.then_x ?_
        refine TQ.block_x ?_
        refine TQ.block_n ?_
        refine TQ.then_n ?_
        refine T.region ?_
        refine TL.move hF rfl rfl ?_
        refine TL.add hF rfl rfl (by omega) (by omega) rfl ?_
        refine TL.assign hF rfl rfl ?_
        refine TL.nil ?_
        have hjn : q = n := by omega
        subst hjn
        exact TQ.round (r + 1) (by omega) (by omega) ⟨rfl, rfl, rfl, rfl, rfl, trivial⟩ (iseg_congr (fun i hi => by simp [mlev, hi]))
    · refine T.exit ?_
      refine TQ.then_x ?_
      refine TQ.then_x ?_
      refine TQ.block_x ?_
      refine TQ.then_n ?_
      refine T.seq ?_
      refine T.region ?_
      refine TL.move hF rfl rfl ?_
      refine TL.assign hF rfl rfl ?_
      refine TL.nil ?_
      refine TQ.then_n ?_
      refine T.ret ?_
      refine TQ.rets [6] _ rfl rfl rfl ?_
      have hjn : r = n := by omega
      subst hjn
      exact ⟨b13, rfl, rfl⟩
end Go.Proofs.Ytdehpaikapbckaa
