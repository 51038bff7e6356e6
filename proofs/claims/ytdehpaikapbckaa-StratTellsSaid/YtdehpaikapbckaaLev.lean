/- Levels, and what changes reach: plain Lean. -/
import Derived.Test.YtdehpaikapbckaaW7
namespace Go.Proofs.Ytdehpaikapbckaa
open Go.Sl
def needS (E D : Nat → Nat → Bool) (own : List Nat) (L : Nat → Int) (a : Nat) (m : Int) (b : Nat) : Int :=
  let m1 := if own.contains b = false ∧ E a b = true then max m (L b) else m
  if D a b = true then max m1 (L b + 1) else m1
def needA (E D : Nat → Nat → Bool) (own : List Nat) (L : Nat → Int) (a : Nat) (m : Int) (k : Nat) : Int := (List.range k).foldl (needS E D own L a) m
def needB (E D : Nat → Nat → Bool) (n : Nat) (own : List Nat) (L : Nat → Int) (xs : List Nat) : Int := xs.foldl (fun m a => needA E D own L a m n) 0
def setL (own : List Nat) (v : Int) (L : Nat → Int) (x : Nat) : Int := if own.contains x then v else L x
def levelsF (E D : Nat → Nat → Bool) (n : Nat) (ls : List (List Nat)) : Nat → Int := ls.foldl (fun L own => setL own (needB E D n own L own) L) fun _ => 0
theorem needA_succ (E D : Nat → Nat → Bool) (own : List Nat) (L : Nat → Int) (a : Nat) (m : Int) (k : Nat) : needA E D own L a m (k + 1) = needS E D own L a (needA E D own L a m k) k := by
  unfold needA; rw [List.range_succ, List.foldl_append]; rfl
theorem needB_snoc (E D : Nat → Nat → Bool) (n : Nat) (own : List Nat) (L : Nat → Int) (xs : List Nat) (a : Nat) : needB E D n own L (xs ++ [a]) = needA E D own L a (needB E D n own L xs) n := by
  unfold needB; rw [List.foldl_append]; rfl
theorem levelsF_snoc (E D : Nat → Nat → Bool) (n : Nat) (ls : List (List Nat)) (own : List Nat) : levelsF E D n (ls ++ [own]) = setL own (needB E D n own (levelsF E D n ls) own) (levelsF E D n ls) := by
  unfold levelsF; rw [List.foldl_append]; rfl
theorem setL_snoc (own : List Nat) (x : Nat) (v : Int) (L : Nat → Int) (i : Nat) : setL (own ++ [x]) v L i = if i = x then v else setL own v L i := by
  unfold setL
  by_cases h : i = x
  · subst h; simp
  · simp [h, List.contains_iff_mem]
theorem needS_le {E D : Nat → Nat → Bool} {own : List Nat} {L : Nat → Int} {a b : Nat} {m B : Int} (hm : 0 ≤ m ∧ m ≤ B + 1) (hL : 0 ≤ L b ∧ L b ≤ B) : 0 ≤ needS E D own L a m b ∧ needS E D own L a m b ≤ B + 1 := by
  unfold needS; simp only; split <;> split <;> omega
theorem needA_le {E D : Nat → Nat → Bool} {own : List Nat} {L : Nat → Int} {a : Nat} {m B : Int} (hm : 0 ≤ m ∧ m ≤ B + 1) : ∀ k, (∀ b, b < k → 0 ≤ L b ∧ L b ≤ B) → 0 ≤ needA E D own L a m k ∧ needA E D own L a m k ≤ B + 1 := by
  intro k
  induction k with
  | zero => intro _; exact hm
  | succ k ih => intro hL; rw [needA_succ]; exact needS_le (ih fun b hb => hL b (by omega)) (hL k (by omega))
theorem needB_le {E D : Nat → Nat → Bool} {n : Nat} {own : List Nat} {L : Nat → Int} {B : Int} (hB : 0 ≤ B) (hL : ∀ b, b < n → 0 ≤ L b ∧ L b ≤ B) : ∀ (xs : List Nat) (m : Int), 0 ≤ m ∧ m ≤ B + 1 → 0 ≤ xs.foldl (fun m a => needA E D own L a m n) m ∧ xs.foldl (fun m a => needA E D own L a m n) m ≤ B + 1 := by
  intro xs
  induction xs with
  | nil => intro m h; exact h
  | cons a xs ih => intro m h; exact ih _ (needA_le h n hL)
theorem levelsF_le {E D : Nat → Nat → Bool} {n : Nat} (ls : List (List Nat)) : ∀ b, 0 ≤ levelsF E D n ls b ∧ levelsF E D n ls b ≤ ls.length := by
  have key : ∀ (k : Nat) (ls : List (List Nat)), ls.length = k → ∀ b, 0 ≤ levelsF E D n ls b ∧ levelsF E D n ls b ≤ k := by
    intro k
    induction k with
    | zero => intro ls h b; have : ls = [] := List.eq_nil_of_length_eq_zero h
              subst this; simp [levelsF]
    | succ k ih =>
      intro ls h b
      obtain ⟨pre, own, rfl⟩ : ∃ pre own, ls = pre ++ [own] := ⟨ls.dropLast, ls.getLast (by intro e; simp [e] at h), (List.dropLast_concat_getLast _).symm⟩
      have hp : pre.length = k := by simpa using h
      have h1 := ih pre hp
      rw [levelsF_snoc]
      unfold setL
      split
      · have := needB_le (E := E) (D := D) (n := n) (own := own) (B := (k : Int)) (by omega) (fun b _ => h1 b) own 0 (by omega)
        unfold needB; omega
      · have := h1 b; omega
  exact key ls.length ls rfl
theorem orderS_len {n : Nat} {M : Nat → Nat → Bool} : ∀ (f : Nat) (done : List Nat), (orderS n M f done).length ≤ f := by
  intro f
  induction f with
  | zero => intro done; simp [orderS]
  | succ f ih => intro done; unfold orderS; split; simp; rename_i a _; have := ih (done ++ blockS n M a); simp; omega
theorem orderS_mem {n : Nat} {M : Nat → Nat → Bool} : ∀ (f : Nat) (done : List Nat), ∀ l ∈ orderS n M f done, ∃ a, l = blockS n M a := by
  intro f
  induction f with
  | zero => intro done l h; simp [orderS] at h
  | succ f ih =>
    intro done l h
    unfold orderS at h
    split at h
    · simp at h
    · rename_i a _
      rcases List.mem_cons.1 h with rfl | h
      · exact ⟨a, rfl⟩
      · exact ih _ l h
/-- What 'Levels' of the document hands over. -/
def levelsS (rels : Int) (rs : List RuleD) : List Int × Int :=
  if (blocksS rels rs).2 ≠ 0 then ([], (blocksS rels rs).2)
  else ((List.range rels.toNat).map (levelsF (EU rs) (ED rs) rels.toNat (blocksS rels rs).1), 0)
def inAll (rels : Int) : List Int → Bool
  | [] => true
  | x :: r => inR x rels && inAll rels r
/-- What 'Reach' of the document hands over. -/
def hits (M : Nat → Nat → Bool) (from' : List Nat) (a : Nat) : Bool := from'.contains a || from'.any fun s => M a s
def reachS (rels : Int) (rs : List RuleD) (from' : List Int) : List Nat × Int :=
  if check rels rs ≠ 0 then ([], check rels rs)
  else if inAll rels from' = false then ([], 2)
  else ((List.range rels.toNat).filter (hits (fwM (EU rs) rels.toNat) (from'.map Int.toNat)), 0)
end Go.Proofs.Ytdehpaikapbckaa
