/- How far relations are from one: plain Lean. -/
import Derived.Test.YtdehpaikapbckaaOrd
namespace Go.Proofs.Ytdehpaikapbckaa
structure IsDist (E : Nat → Nat → Bool) (n t : Nat) (d : Nat → Int) : Prop where
  z : d t = 0
  lo : ∀ a, a < n → -1 ≤ d a
  zt : ∀ a, a < n → d a = 0 → a = t
  dn : ∀ a, a < n → 0 < d a → ∃ b, b < n ∧ E a b = true ∧ d b = d a - 1
  up : ∀ a b, a < n → b < n → E a b = true → 0 ≤ d b → 0 ≤ d a ∧ d a ≤ d b + 1
theorem IsDist.le {E : Nat → Nat → Bool} {n t : Nat} {d d' : Nat → Int} (ht : t < n) (h : IsDist E n t d) (h' : IsDist E n t d') : ∀ (k : Nat) (a : Nat), a < n → d a = k → 0 ≤ d' a ∧ d' a ≤ d a := by
  intro k
  induction k with
  | zero => intro a ha hd; have := h.zt a ha (by simpa using hd); subst this; rw [h'.z, h.z]; omega
  | succ k ih =>
    intro a ha hd
    obtain ⟨b, hb, he, hdb⟩ := h.dn a ha (by omega)
    have h1 := ih b hb (by omega)
    have h2 := h'.up a b ha hb he h1.1
    omega
theorem IsDist.eq {E : Nat → Nat → Bool} {n t : Nat} {d d' : Nat → Int} (ht : t < n) (h : IsDist E n t d) (h' : IsDist E n t d') {a : Nat} (ha : a < n) : d a = d' a := by
  have l1 := h.lo a ha
  have l2 := h'.lo a ha
  by_cases h1 : 0 ≤ d a
  · have h2 := IsDist.le ht h h' (d a).toNat a ha (by omega)
    have h3 := IsDist.le ht h' h (d' a).toNat a ha (by omega)
    omega
  · by_cases h2 : 0 ≤ d' a
    · have h3 := IsDist.le ht h' h (d' a).toNat a ha (by omega)
      omega
    · omega
/-- After so many rounds. -/
def hasN (n : Nat) (p : Nat → Bool) : Bool := (List.range n).any p
theorem hasN_iff {n : Nat} {p : Nat → Bool} : hasN n p = true ↔ ∃ b, b < n ∧ p b = true := by simp [hasN]
def levS (E : Nat → Nat → Bool) (n t : Nat) : Nat → Nat → Int
  | 0, a => if a = t then 0 else -1
  | r + 1, a => if levS E n t r a < 0 ∧ hasN n (fun b => decide (levS E n t r b = r) && E a b) = true then (r : Int) + 1 else levS E n t r a
def distS (E : Nat → Nat → Bool) (n t a : Nat) : Int := levS E n t n a
theorem levS_le {E : Nat → Nat → Bool} {n t : Nat} : ∀ (r a : Nat), -1 ≤ levS E n t r a ∧ levS E n t r a ≤ r := by
  intro r
  induction r with
  | zero => intro a; simp only [levS]; split <;> omega
  | succ r ih => intro a; have := ih a; simp only [levS]; split <;> omega
theorem levS_keep {E : Nat → Nat → Bool} {n t r a : Nat} (h : 0 ≤ levS E n t r a) : ∀ {s : Nat}, r ≤ s → levS E n t s a = levS E n t r a := by
  intro s hs
  induction s with
  | zero => have : r = 0 := by omega
            subst this; rfl
  | succ s ih =>
    rcases Nat.lt_or_ge s r with h1 | h1
    · have : r = s + 1 := by omega
      subst this; rfl
    · have := ih h1
      simp only [levS]
      rw [if_neg (by omega), this]
/-- What has the number k had it behind k rounds. -/
theorem levS_at {E : Nat → Nat → Bool} {n t : Nat} : ∀ {r a : Nat} {k : Nat}, levS E n t r a = k → levS E n t k a = k := by
  intro r
  induction r with
  | zero =>
    intro a k h
    have := levS_le (E := E) (n := n) (t := t) 0 a
    have : k = 0 := by omega
    subst this; exact h
  | succ r ih =>
    intro a k h
    have h' := h
    simp only [levS] at h'
    split at h'
    · have : k = r + 1 := by omega
      subst this; exact h
    · exact ih h'
theorem levS_down {E : Nat → Nat → Bool} {n t a k : Nat} (h : levS E n t (k + 1) a = (k : Int) + 1) : ∃ b, b < n ∧ E a b = true ∧ levS E n t k b = k := by
  simp only [levS] at h
  split at h
  · rename_i h1
    obtain ⟨b, hb, h2⟩ := hasN_iff.1 h1.2
    simp only [Bool.and_eq_true, decide_eq_true_eq] at h2
    exact ⟨b, hb, h2.2, h2.1⟩
  · have := levS_le (E := E) (n := n) (t := t) k a
    omega
theorem levS_chain {E : Nat → Nat → Bool} {n t : Nat} : ∀ {k a : Nat}, levS E n t k a = k → ∀ j, j < k → ∃ b, b < n ∧ levS E n t j b = j := by
  intro k
  induction k with
  | zero => intro a _ j hj; omega
  | succ k ih =>
    intro a h j hj
    obtain ⟨b, hb, _, h2⟩ := levS_down (by simpa using h)
    by_cases hjk : j = k
    · subst hjk; exact ⟨b, hb, h2⟩
    · exact ih h2 j (by omega)
theorem levS_lt {E : Nat → Nat → Bool} {n t a : Nat} (ha : a < n) : levS E n t n a < n := by
  have h0 := levS_le (E := E) (n := n) (t := t) n a
  apply Classical.byContradiction
  intro hc
  have hn : levS E n t n a = n := by omega
  have hex : ∀ j, j < n + 1 → ∃ b, b < n ∧ levS E n t j b = j := fun j hj => by
    by_cases h1 : j = n
    · subst h1; exact ⟨a, ha, hn⟩
    · exact levS_chain hn j (by omega)
  let f : Nat → Nat := fun j => if h : j < n + 1 then Classical.choose (hex j h) else 0
  have hf : ∀ j, j < n + 1 → f j < n ∧ levS E n t j (f j) = j := fun j hj => by
    have := Classical.choose_spec (hex j hj)
    simp only [f, dif_pos hj]; exact this
  have hnd : ((List.range (n + 1)).map f).Nodup := by
    rw [List.Nodup, List.pairwise_map]
    refine List.Pairwise.imp_of_mem ?_ (List.nodup_range (n := n + 1))
    intro x y hx hy hne he
    have h1 := hf x (by simpa using hx)
    have h2 := hf y (by simpa using hy)
    rw [he] at h1
    have e1 := levS_keep (E := E) (n := n) (t := t) (r := x) (a := f y) (by omega) (s := max x y) (by omega)
    have e2 := levS_keep (E := E) (n := n) (t := t) (r := y) (a := f y) (by omega) (s := max x y) (by omega)
    omega
  have := hnd.length_le_of_subset (l₂ := List.range n) (fun b hb => by
    obtain ⟨j, hj, rfl⟩ := List.mem_map.1 hb
    have := (hf j (by simpa using hj)).1
    simpa using this)
  simp at this; omega
theorem distS_is {E : Nat → Nat → Bool} {n t : Nat} (ht : t < n) : IsDist E n t (distS E n t) := by
  have key : ∀ a, 0 ≤ levS E n t n a → levS E n t (levS E n t n a).toNat a = levS E n t n a := fun a h => by
    have := levS_at (E := E) (n := n) (t := t) (r := n) (a := a) (k := (levS E n t n a).toNat) (by omega)
    omega
  refine ⟨?_, fun a _ => (levS_le n a).1, ?_, ?_, ?_⟩
  · have := levS_keep (E := E) (n := n) (t := t) (r := 0) (a := t) (by simp [levS]) (s := n) (by omega)
    unfold distS; rw [this]; simp [levS]
  · intro a _ h
    have := key a (by unfold distS at h; omega)
    unfold distS at h
    rw [h] at this
    simp only [Int.toNat_zero, levS] at this
    split at this
    · assumption
    · omega
  · intro a ha h
    unfold distS at h ⊢
    have h1 := key a (by omega)
    obtain ⟨k, hk⟩ : ∃ k : Nat, levS E n t n a = (k : Int) + 1 := ⟨(levS E n t n a).toNat - 1, by omega⟩
    rw [hk] at h1
    have e : ((k : Int) + 1).toNat = k + 1 := by omega
    rw [e] at h1
    obtain ⟨b, hb, he, h2⟩ := levS_down h1
    refine ⟨b, hb, he, ?_⟩
    have := levS_le (E := E) (n := n) (t := t) n a
    rw [levS_keep (by omega) (show k ≤ n by omega), h2, hk]; omega
  · intro a b ha hb he h
    unfold distS at h ⊢
    have h1 := key b h
    have hlt := levS_lt (E := E) (n := n) (t := t) hb
    obtain ⟨k, hk⟩ : ∃ k : Nat, levS E n t n b = (k : Int) := ⟨(levS E n t n b).toNat, by omega⟩
    rw [hk] at h1 hlt ⊢
    rw [Int.toNat_natCast] at h1
    have h2 : 0 ≤ levS E n t (k + 1) a ∧ levS E n t (k + 1) a ≤ k + 1 := by
      have := levS_le (E := E) (n := n) (t := t) (k + 1) a
      refine ⟨?_, by omega⟩
      simp only [levS]
      split
      · omega
      · rename_i hx
        apply Classical.byContradiction
        intro hc
        exact hx ⟨by omega, hasN_iff.2 ⟨b, hb, by simp [h1, he]⟩⟩
    rw [levS_keep h2.1 (show k + 1 ≤ n by omega)]
    exact h2
/-- The next one on the way, and the way. -/
def nextS (E : Nat → Nat → Bool) (n : Nat) (d : Nat → Int) (r : Nat) : Nat := ((List.range n).find? fun b => decide (d b = d r - 1) && E r b).getD 0
def wayS (E : Nat → Nat → Bool) (n : Nat) (d : Nat → Int) : Nat → Nat → List Nat
  | 0, _ => []
  | k + 1, r => r :: wayS E n d k (nextS E n d r)
theorem wayS_len (E : Nat → Nat → Bool) (n : Nat) (d : Nat → Int) : ∀ k r, (wayS E n d k r).length = k := by
  intro k
  induction k with
  | zero => intro r; rfl
  | succ k ih => intro r; simp [wayS, ih]
theorem find_is {n : Nat} {p : Nat → Bool} {a : Nat} (ha : a < n) (hr : p a = true) (hl : ∀ b, b < a → p b = false) : (List.range n).find? p = some a := by
  rw [List.find?_eq_some_iff_append]
  refine ⟨hr, List.range a, (List.range' (a + 1) (n - a - 1)), ?_, ?_⟩
  · have e : n = a + (1 + (n - a - 1)) := by omega
    conv => lhs; rw [e, List.range_add]
    congr 1
    rw [show 1 + (n - a - 1) = (n - a - 1) + 1 by omega, List.range_succ_eq_map]
    simp [List.range'_eq_map_range, Nat.add_assoc, Nat.add_comm, Nat.add_left_comm, Function.comp_def]
  · intro b hb
    have := hl b (by simpa using hb)
    simp [this]
theorem nextS_is {E : Nat → Nat → Bool} {n : Nat} {d : Nat → Int} {r a : Nat} (ha : a < n) (hr : d a = d r - 1 ∧ E r a = true) (hl : ∀ b, b < a → ¬ (d b = d r - 1 ∧ E r b = true)) : nextS E n d r = a := by
  unfold nextS
  rw [find_is ha (by simp [hr.1, hr.2]) (fun b hb => ?_)]
  · rfl
  · rw [Bool.eq_false_iff]; intro h
    simp only [Bool.and_eq_true, decide_eq_true_eq] at h
    exact hl b hb h
/-- A cycle of denial by a denial of b in a. -/
def candS (E : Nat → Nat → Bool) (n a b : Nat) : List Nat := a :: wayS E n (distS E n a) (distS E n a b).toNat b
def casts (l : List Nat) : List Int := l.map fun (b : Nat) => (b : Int)
def betterS (best c : List Nat) : List Nat := if best.length = 0 ∨ less (casts c) (casts best) = true then c else best
def tryS (E D : Nat → Nat → Bool) (n a : Nat) (best : List Nat) (b : Nat) : List Nat := if D a b = true ∧ 0 ≤ distS E n a b then betterS best (candS E n a b) else best
def rowS (E D : Nat → Nat → Bool) (n a : Nat) (best : List Nat) (j : Nat) : List Nat := (List.range j).foldl (tryS E D n a) best
def bestS (E D : Nat → Nat → Bool) (n k : Nat) : List Nat := (List.range k).foldl (fun best a => rowS E D n a best n) []
theorem rowS_succ (E D : Nat → Nat → Bool) (n a : Nat) (best : List Nat) (j : Nat) : rowS E D n a best (j + 1) = tryS E D n a (rowS E D n a best j) j := by
  unfold rowS; rw [List.range_succ, List.foldl_append]; rfl
theorem bestS_succ (E D : Nat → Nat → Bool) (n k : Nat) : bestS E D n (k + 1) = rowS E D n k (bestS E D n k) n := by
  unfold bestS; rw [List.range_succ, List.foldl_append]; rfl
theorem tryS_len {E D : Nat → Nat → Bool} {n a b : Nat} {best : List Nat} (ha : a < n) (hb : b < n) (h : best.length ≤ n) : (tryS E D n a best b).length ≤ n := by
  unfold tryS; split
  · unfold betterS; split
    · have := levS_lt (E := E) (n := n) (t := a) hb
      simp only [candS, List.length_cons, wayS_len]; unfold distS; omega
    · exact h
  · exact h
end Go.Proofs.Ytdehpaikapbckaa
