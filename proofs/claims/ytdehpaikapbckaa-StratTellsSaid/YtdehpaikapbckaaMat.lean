/- Ways of uses, and matrices of words that say who leads to whom: in plain Lean, and as they lie in memory. -/
import Derived.Test.YtdehpaikapbckaaW2
namespace Go.Proofs.Ytdehpaikapbckaa
open Go.Sl
/-- Ways by relations below k (Warshall). -/
def fwM (E : Nat → Nat → Bool) : Nat → Nat → Nat → Bool
  | 0, a, b => E a b
  | k + 1, a, b => fwM E k a b || (fwM E k a k && fwM E k k b)
theorem fw_col (E : Nat → Nat → Bool) (k a : Nat) : fwM E (k + 1) a k = fwM E k a k := by simp only [fwM]; cases fwM E k a k <;> simp
theorem fw_row (E : Nat → Nat → Bool) (k b : Nat) : fwM E (k + 1) k b = fwM E k k b := by simp only [fwM]; cases fwM E k k b <;> simp
theorem fw_mono {E : Nat → Nat → Bool} {a b : Nat} : ∀ {k l : Nat}, k ≤ l → fwM E k a b = true → fwM E l a b = true := by
  intro k l h hk
  induction l with
  | zero => have : k = 0 := by omega
            subst this; exact hk
  | succ l ih =>
    rcases Nat.lt_or_ge l k with h1 | h1
    · have : k = l + 1 := by omega
      subst this; exact hk
    · simp only [fwM, ih h1, Bool.true_or]
theorem fw_trans {E : Nat → Nat → Bool} {b : Nat} : ∀ {k : Nat} {a c : Nat}, b < k → fwM E k a b = true → fwM E k b c = true → fwM E k a c = true := by
  intro k
  induction k with
  | zero => intro a c h; omega
  | succ k ih =>
    intro a c h h1 h2
    rcases Nat.lt_or_ge b k with hb | hb
    · simp only [fwM, Bool.or_eq_true, Bool.and_eq_true] at h1 h2 ⊢
      rcases h1 with h1 | ⟨h1, h3⟩ <;> rcases h2 with h2 | ⟨h2, h4⟩
      · exact .inl (ih hb h1 h2)
      · exact .inr ⟨ih hb h1 h2, h4⟩
      · exact .inr ⟨h1, ih hb h3 h2⟩
      · exact .inr ⟨h1, h4⟩
    · have : b = k := by omega
      subst this
      rw [fw_col] at h1; rw [fw_row] at h2
      simp only [fwM, h1, h2, Bool.and_self, Bool.or_true]
/-- What is closed under uses has all to which one leads. -/
theorem fw_least {E : Nat → Nat → Bool} {n : Nat} (X : Nat → Prop) (hc : ∀ a b, a < n → b < n → X a → E a b = true → X b) : ∀ {k : Nat} {a b : Nat}, k ≤ n → a < n → b < n → X a → fwM E k a b = true → X b := by
  intro k
  induction k with
  | zero => intro a b _ ha hb hx h; exact hc a b ha hb hx h
  | succ k ih =>
    intro a b hk ha hb hx h
    simp only [fwM, Bool.or_eq_true, Bool.and_eq_true] at h
    rcases h with h | ⟨h1, h2⟩
    · exact ih (by omega) ha hb hx h
    · exact ih (by omega) (by omega) hb (ih (by omega) ha (by omega) hx h1) h2
/-- A way is a use, or a use and a way. -/
theorem fw_first {E : Nat → Nat → Bool} {n : Nat} {a b : Nat} (ha : a < n) (hb : b < n) (h : fwM E n a b = true) : E a b = true ∨ ∃ c, c < n ∧ E a c = true ∧ fwM E n c b = true := by
  have key : ∀ {k : Nat} {a b : Nat}, k ≤ n → a < n → b < n → fwM E k a b = true → E a b = true ∨ ∃ c, c < n ∧ E a c = true ∧ fwM E n c b = true := by
    intro k
    induction k with
    | zero => intro a b _ _ _ h; exact .inl h
    | succ k ih =>
      intro a b hk ha hb h
      simp only [fwM, Bool.or_eq_true, Bool.and_eq_true] at h
      rcases h with h | ⟨h1, h2⟩
      · exact ih (by omega) ha hb h
      · rcases ih (by omega) ha (by omega) h1 with h3 | ⟨c, hc, h3, h4⟩
        · exact .inr ⟨k, by omega, h3, fw_mono (by omega) h2⟩
        · exact .inr ⟨c, hc, h3, fw_trans (by omega) h4 (fw_mono (by omega) h2)⟩
  exact key (Nat.le_refl _) ha hb h
theorem fw_E {E : Nat → Nat → Bool} {n a b : Nat} (h : E a b = true) : fwM E n a b = true := fw_mono (Nat.zero_le n) h
theorem fw_congr {E E' : Nat → Nat → Bool} {n : Nat} (h : ∀ a b, a < n → b < n → E a b = E' a b) : ∀ {k a b : Nat}, k ≤ n → a < n → b < n → fwM E k a b = fwM E' k a b := by
  intro k
  induction k with
  | zero => intro a b _ ha hb; exact h a b ha hb
  | succ k ih => intro a b hk ha hb; simp only [fwM]; rw [ih (by omega) ha hb, ih (by omega) ha (by omega), ih (by omega) (by omega) hb]

/-! In memory -/
def rowC (n : Nat) (f : Nat → Bool) : List Value := (List.range n).map fun j => .bool (f j)
theorem rowC_len (n : Nat) (f : Nat → Bool) : (rowC n f).length = n := by simp [rowC]
theorem rowC_get {n : Nat} {f : Nat → Bool} {j : Nat} (h : j < n) : (rowC n f)[j]? = some (.bool (f j)) := by simp [rowC, h]
theorem rowC_congr {n : Nat} {f g : Nat → Bool} (h : ∀ j, j < n → f j = g j) : rowC n f = rowC n g := by
  unfold rowC; apply List.map_congr_left; intro j hj; rw [h j (by simpa using hj)]
theorem rowC_false (n : Nat) : List.replicate n (Value.bool false) = rowC n fun _ => false := by
  apply List.ext_getElem?; intro i; simp [rowC]
  by_cases h : i < n
  · rw [List.getElem?_replicate_of_lt h]; simp [h]
  · simp [h]
theorem rowC_set {n : Nat} {f g : Nat → Bool} {j : Nat} {v : Bool} (h : ∀ i, i < n → g i = if i = j then v else f i) : (rowC n f).toArray.setIfInBounds j (.bool v) = (rowC n g).toArray := by
  apply Array.ext'
  simp only [Array.toList_setIfInBounds]
  apply List.ext_getElem?
  intro i
  rw [List.getElem?_set]
  by_cases hi : i < n
  · rw [rowC_get hi, rowC_get hi, h i hi]
    by_cases hj : j = i
    · subst hj; simp [rowC_len, hi]
    · simp [hj, Ne.symm hj]
  · have h1 : (rowC n f)[i]? = none := by simp [rowC]; omega
    have h2 : (rowC n g)[i]? = none := by simp [rowC]; omega
    rw [h1, h2]
    by_cases hj : j = i
    · subst hj; simp [rowC_len, hi]
    · simp [hj]
def rowV (n : Nat) (b : Nat) : Value := .slice (some ⟨b, 0, none⟩) n n
def msegs (n : Nat) (M : Nat → Nat → Bool) (bs : List Nat) : Heap := (List.range bs.length).map fun i => [(bs.getD i 0, .cells (rowC n (M i)).toArray 4 (0, 0))]
theorem msegs_len (n : Nat) (M : Nat → Nat → Bool) (bs : List Nat) : (msegs n M bs).length = bs.length := by simp [msegs]
theorem msegs_get {n : Nat} {M : Nat → Nat → Bool} {bs : List Nat} {r : Heap} {i : Nat} (h : i < bs.length) : (msegs n M bs ++ r)[i]? = some [(bs.getD i 0, .cells (rowC n (M i)).toArray 4 (0, 0))] := by
  rw [List.getElem?_append_left (by rw [msegs_len]; exact h)]; simp [msegs, h]
theorem msegs_at {n : Nat} {M : Nat → Nat → Bool} {bs : List Nat} {s : Seg} {r : Heap} {i : Nat} (h : i = bs.length) : (msegs n M bs ++ s :: r)[i]? = some s := by
  subst h
  rw [List.getElem?_append_right (by rw [msegs_len]; omega), msegs_len]; simp
theorem msegs_setAt {n : Nat} {M : Nat → Nat → Bool} {bs : List Nat} {s s' : Seg} {r : Heap} {i : Nat} (h : i = bs.length) : (msegs n M bs ++ s :: r).set i s' = msegs n M bs ++ s' :: r := by
  subst h
  rw [List.set_append_right _ _ (by rw [msegs_len]; omega), msegs_len]; simp
theorem msegs_snoc (n : Nat) (M : Nat → Nat → Bool) (bs : List Nat) (b : Nat) : msegs n M (bs ++ [b]) = msegs n M bs ++ [[(b, .cells (rowC n (M bs.length)).toArray 4 (0, 0))]] := by
  simp only [msegs, List.length_append, List.length_cons, List.length_nil, Nat.zero_add, List.range_succ, List.map_append, List.map_cons, List.map_nil]
  congr 1
  · apply List.map_congr_left
    intro i hi
    have hi : i < bs.length := by simpa using hi
    simp [List.getD_eq_getElem?_getD, List.getElem?_append_left hi]
  · simp
theorem msegs_congr {n : Nat} {M M' : Nat → Nat → Bool} {bs : List Nat} (h : ∀ i j, i < bs.length → j < n → M i j = M' i j) : msegs n M bs = msegs n M' bs := by
  unfold msegs
  apply List.map_congr_left
  intro i hi
  rw [rowC_congr (h i · (by simpa using hi))]
theorem msegs_set {n : Nat} {M M' : Nat → Nat → Bool} {bs : List Nat} {r : Heap} {a j : Nat} {v : Bool} (ha : a < bs.length) (h1 : ∀ i, i < n → M' a i = if i = j then v else M a i) (h2 : ∀ k i, k < bs.length → k ≠ a → i < n → M' k i = M k i) :
    (msegs n M bs ++ r).set a [(bs.getD a 0, .cells ((rowC n (M a)).toArray.setIfInBounds j (.bool v)) 4 (0, 0))] = msegs n M' bs ++ r := by
  rw [rowC_set h1, List.set_append_left _ _ (by rw [msegs_len]; exact ha)]
  congr 1
  apply List.ext_getElem?
  intro k
  rw [List.getElem?_set]
  by_cases hk : k < bs.length
  · by_cases hka : a = k
    · subst hka
      rw [if_pos rfl, if_pos (by rw [msegs_len]; exact ha)]
      simp [msegs, ha]
    · rw [if_neg hka]
      simp only [msegs, List.getElem?_map, List.getElem?_range hk, Option.map_some]
      rw [rowC_congr (fun i hi => (h2 k i hk (fun e => hka e.symm) hi).symm)]
  · have e1 : (msegs n M bs)[k]? = none := List.getElem?_eq_none (by rw [msegs_len]; omega)
    have e2 : (msegs n M' bs)[k]? = none := List.getElem?_eq_none (by rw [msegs_len]; omega)
    rw [e1, e2, if_neg (fun e : a = k => hk (e ▸ ha))]
variable {S : Nat → Prop} {w0 : World} {η : Heap}
theorem msegs_mem {n : Nat} {M : Nat → Nat → Bool} {bs : List Nat} {i : Nat} (h : i < bs.length) : [(bs.getD i 0, Obj.cells (rowC n (M i)).toArray 4 (0, 0))] ∈ msegs n M bs := by
  simp only [msegs, List.mem_map, List.mem_range]; exact ⟨i, h, rfl⟩
/-- A matrix that is read. -/
def Mat (S : Nat → Prop) (w0 : World) (η : Heap) (a : Option Addr) (n : Nat) (M : Nat → Nat → Bool) : Prop :=
  ∃ f : Nat → Option Addr × Nat, ∀ i, i < n → (∃ ad, a = some ad ∧ ad.spot = none) ∧ At S w0 η (sAt a (i * 1)) (.slice (f i).1 n (f i).2) ∧ Row S w0 η (f i).1 (rowC n (M i))
theorem Mat.up {η' : Heap} {a : Option Addr} {n : Nat} {M : Nat → Nat → Bool} (h : Mat S w0 η a n M) (hs : ∀ seg ∈ η, seg ∈ η') : Mat S w0 η' a n M := by
  obtain ⟨f, hf⟩ := h
  exact ⟨f, fun i hi => ⟨(hf i hi).1, (hf i hi).2.1.up hs, (hf i hi).2.2.up hs⟩⟩
theorem Mat.congr {a : Option Addr} {n : Nat} {M M' : Nat → Nat → Bool} (h : Mat S w0 η a n M) (hc : ∀ i j, i < n → j < n → M i j = M' i j) : Mat S w0 η a n M' := by
  obtain ⟨f, hf⟩ := h
  exact ⟨f, fun i hi => ⟨(hf i hi).1, (hf i hi).2.1, by rw [← rowC_congr (fun j hj => hc i j hi hj)]; exact (hf i hi).2.2⟩⟩
/-- An owned block is a row. -/
theorem row_own {b : Nat} {cs : List Value} {e : TypeId} (h : [(b, Obj.cells cs.toArray e (0, 0))] ∈ η) : Row S w0 η (some ⟨b, 0, none⟩) cs :=
  ⟨fun _ => ⟨_, rfl, rfl⟩, fun i v hi => .own _ h cs.toArray e (0, 0) (by simp [sAt]) (by simpa [sAt] using hi) (by simp [sAt])⟩
theorem Mat.own {a : Option Addr} {n cap : Nat} {M : Nat → Nat → Bool} {bs : List Nat} {seg : Seg} {r : Heap} (hn : bs.length = n) (ho : OSl 42 1 (.slice a n cap) n (bs.map (rowV n)) seg) : Mat S w0 (msegs n M bs ++ seg :: r) a n M := by
  refine ⟨fun i => (some ⟨bs.getD i 0, 0, none⟩, n), fun i hi => ?_⟩
  have hr : Row S w0 (msegs n M bs ++ seg :: r) a (bs.map (rowV n)) := ho.row (by simp)
  refine ⟨hr.adi (i := i) (by simp; omega), ?_, row_own (e := 4) (List.mem_append_left _ (msegs_mem (by omega)))⟩
  rw [Nat.mul_one]
  exact hr.cell i _ (by simp [rowV, List.getD_eq_getElem?_getD, hn, hi])
theorem osl_ad {e : TypeId} {sz n : Nat} {a : Option Addr} {l cap : Nat} {xs : List Value} {seg : Seg} (ho : OSl e sz (.slice a l cap) n xs seg) (hn : 0 < n) : ∃ ad, a = some ad ∧ ad.spot = none := by
  rcases ho.2 with ⟨hv, h0, _⟩ | ⟨g, cap', cur, hv, _⟩
  · omega
  · cases hv; exact ⟨_, rfl, rfl⟩
/-- One pass of Warshall, part of the way. -/
def mid (E : Nat → Nat → Bool) (via a b i j : Nat) : Bool := if i < a ∨ (i = a ∧ j < b) then fwM E (via + 1) i j else fwM E via i j
theorem mid_next {E : Nat → Nat → Bool} {via a b i j : Nat} (h : ¬ (i = a ∧ j = b)) : mid E via a (b + 1) i j = mid E via a b i j := by
  unfold mid
  by_cases h1 : i < a ∨ (i = a ∧ j < b)
  · rw [if_pos h1, if_pos (by omega)]
  · rw [if_neg h1, if_neg (by omega)]
theorem mid_here {E : Nat → Nat → Bool} {via a b : Nat} : mid E via a (b + 1) a b = (mid E via a b a b || (mid E via a b a via && mid E via a b via b)) := by
  have h1 : mid E via a b a via = fwM E via a via := by unfold mid; split; exact fw_col E via a; rfl
  have h2 : mid E via a b via b = fwM E via via b := by unfold mid; split; exact fw_row E via b; rfl
  have h3 : mid E via a b a b = fwM E via a b := by unfold mid; rw [if_neg (by omega)]
  have h4 : mid E via a (b + 1) a b = fwM E (via + 1) a b := by unfold mid; rw [if_pos (by omega)]
  rw [h1, h2, h3, h4]; rfl
theorem mid_row {E : Nat → Nat → Bool} {via a n i j : Nat} (hj : j < n) : mid E via a n i j = mid E via (a + 1) 0 i j := by
  unfold mid
  by_cases h : i < a ∨ (i = a ∧ j < n)
  · rw [if_pos h, if_pos (by omega)]
  · rw [if_neg h, if_neg (by omega)]
theorem mid_all {E : Nat → Nat → Bool} {via n i j : Nat} (hi : i < n) : mid E via n 0 i j = fwM E (via + 1) i j := by
  unfold mid; rw [if_pos (by omega)]
end Go.Proofs.Ytdehpaikapbckaa
