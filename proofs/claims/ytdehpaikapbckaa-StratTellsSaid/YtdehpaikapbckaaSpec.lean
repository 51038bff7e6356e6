/- What loose rules say: the words of the chapter, in plain Lean. -/
import Derived.Test.YtdehpaikapbckaaBase10
namespace Go.Proofs.Ytdehpaikapbckaa
/-- A loose rule, and an atom, as they lie in memory (addresses and capacities of their lists go along). -/
structure AtomD where
  rel : Int
  neg : Bool
  aa : Option Addr
  al : Nat
  ac : Nat
structure RuleD where
  head : Int
  ha : Option Addr
  hl : Nat
  hc : Nat
  ba : Option Addr
  bc : Nat
  body : List AtomD
  ta : Option Addr
  tl : Nat
  tc : Nat
def inR (n rels : Int) : Bool := decide (0 ≤ n) && decide (n < rels)
def atomsOk (rels : Int) : List AtomD → Bool
  | [] => true
  | x :: r => inR x.rel rels && atomsOk rels r
def checkR (rels : Int) (r : RuleD) : Int := if 6 < r.body.length then 3 else if inR r.head rels = false then 2 else if atomsOk rels r.body then 0 else 2
def errs (rels : Int) : List RuleD → Int
  | [] => 0
  | r :: rs => if checkR rels r = 0 then errs rels rs else checkR rels r
def check (rels : Int) (rs : List RuleD) : Int := if rels < 1 then 1 else if 48 < rels then 1 else if 60 < rs.length then 3 else errs rels rs
def hit (b : Int) (denied : Bool) (x : AtomD) : Bool := decide (x.rel = b) && (x.neg || !denied)
def usesA (b : Int) (denied : Bool) : List AtomD → Bool
  | [] => false
  | x :: r => hit b denied x || usesA b denied r
def uses (a b : Int) (denied : Bool) : List RuleD → Bool
  | [] => false
  | r :: rs => (decide (r.head = a) && usesA b denied r.body) || uses a b denied rs
/-- less: shorter, or less at the first place at which they differ. -/
def lessA : List Int → List Int → Bool
  | x :: xs, y :: ys => if x ≠ y then decide (x < y) else lessA xs ys
  | _, _ => false
def less (a b : List Int) : Bool := if a.length ≠ b.length then decide (a.length < b.length) else lessA a b
def whereA (n : Int) : List Int → Nat → Int
  | [], _ => -1
  | x :: xs, i => if x = n then i else whereA n xs (i + 1)
theorem drop_step {α : Type} {l : List α} {k : Nat} (h : k < l.length) : l.drop k = l[k] :: l.drop (k + 1) := List.drop_eq_getElem_cons h
theorem not_mem_succ {xs : List Int} {n : Int} {k : Nat} (hk : k < xs.length) (h : n ∉ xs.take k) (hne : xs[k] ≠ n) : n ∉ xs.take (k + 1) := by
  rw [List.take_succ_eq_append_getElem hk]
  simp only [List.mem_append, List.mem_singleton, not_or]
  exact ⟨h, fun e => hne e.symm⟩
theorem take_succ_eq {α : Type} {xs ys : List α} {k : Nat} (h1 : k < xs.length) (h2 : k < ys.length) (h : xs.take k = ys.take k) (he : xs[k] = ys[k]) : xs.take (k + 1) = ys.take (k + 1) := by
  rw [List.take_succ_eq_append_getElem h1, List.take_succ_eq_append_getElem h2, h, he]
theorem ne_of_getElem {α : Type} {xs ys : List α} {k : Nat} (h1 : k < xs.length) (h2 : k < ys.length) (he : xs[k] ≠ ys[k]) : xs ≠ ys := fun e => he (by subst e; rfl)
end Go.Proofs.Ytdehpaikapbckaa
