/- Distances by a queue: plain Lean. -/
import Derived.Test.YtdehpaikapbckaaW21
import Derived.Test.YtdehpaikapbckaaBase14
namespace Go.Proofs.Ytdehpaikapbckaa
def seenD (D : Nat → Int) (a : Nat) : Bool := decide (0 ≤ D a)
structure BF (E : Nat → Nat → Bool) (n t : Nat) (D : Nat → Int) (q : List Nat) : Prop where
  z : D t = 0
  lo : ∀ a, a < n → -1 ≤ D a
  zt : ∀ a, a < n → D a = 0 → a = t
  dn : ∀ a, a < n → 0 < D a → ∃ b, b < n ∧ E a b = true ∧ D b = D a - 1
  qs : ∀ x ∈ q, x < n ∧ 0 ≤ D x
  pr : ∀ b, b < n → 0 ≤ D b → b ∉ q → ∀ a, a < n → E a b = true → 0 ≤ D a ∧ D a ≤ D b + 1
  so : q.Pairwise fun x y => D x ≤ D y
  top : ∀ h, q.head? = some h → ∀ a, a < n → D a ≤ D h + 1
  bd : ∀ a, a < n → D a + 1 + (unm n (seenD D) : Int) ≤ n
  ql : q.length + unm n (seenD D) ≤ n
theorem unm_all (n : Nat) : unm n (fun _ => false) = n := by
  unfold unm
  have : (List.range n).filter (fun _ => !false) = List.range n := List.filter_eq_self.2 (by simp)
  rw [this]; simp
theorem unm_congr {n : Nat} {A B : Nat → Bool} (h : ∀ a, a < n → A a = B a) : unm n A = unm n B := by
  unfold unm
  rw [List.filter_congr]
  intro x hx; rw [h x (by simpa using hx)]
theorem BF.start {E : Nat → Nat → Bool} {n t : Nat} (ht : t < n) : BF E n t (fun a => if a = t then 0 else -1) [t] := by
  have hu : unm n (seenD fun a => if a = t then 0 else -1) < n := by
    have h1 := unm_mark (n := n) (A := fun _ => false) ht rfl
    rw [unm_all] at h1
    rw [unm_congr (B := markA (fun _ => false) t)]
    · exact h1
    · intro a _
      unfold seenD markA
      by_cases h : a = t <;> simp [h]
  refine ⟨by simp, fun a _ => ?_, fun a _ h => ?_, fun a _ h => ?_, fun x hx => ?_, fun b _ h1 h2 => ?_, List.pairwise_singleton _ _, fun h hh a _ => ?_, fun a _ => ?_, by simp only [List.length_singleton]; omega⟩
  · split <;> omega
  · split at h
    · assumption
    · omega
  · split at h <;> omega
  · have : x = t := by simpa using hx
    subst this; exact ⟨ht, by simp⟩
  · exfalso
    split at h1
    · subst_vars; simp at h2
    · omega
  · have : h = t := by simpa using hh.symm
    subst this; simp only [if_true]; split <;> omega
  · split <;> omega
theorem BF.pop {E : Nat → Nat → Bool} {n t h : Nat} {D : Nat → Int} {q : List Nat} (hb : BF E n t D (h :: q)) (hp : ∀ a, a < n → E a h = true → 0 ≤ D a) : BF E n t D q := by
  refine ⟨hb.z, hb.lo, hb.zt, hb.dn, fun x hx => hb.qs x (List.mem_cons_of_mem _ hx), fun b hbn h0 hnq a ha he => ?_, (List.pairwise_cons.1 hb.so).2, fun h' hh a ha => ?_, hb.bd, by have := hb.ql; simp only [List.length_cons] at this; omega⟩
  · by_cases e : b = h
    · subst e; exact ⟨hp a ha he, hb.top b rfl a ha⟩
    · exact hb.pr b hbn h0 (by simp [e, hnq]) a ha he
  · have h1 := hb.top h rfl a ha
    have hm : h' ∈ q := by
      cases q with
      | nil => simp at hh
      | cons x r => simp at hh; subst hh; simp
    have h2 := (List.pairwise_cons.1 hb.so).1 h' hm
    omega
def updD (D : Nat → Int) (r : Nat) (v : Int) (i : Nat) : Int := if i = r then v else D i
theorem BF.push {E : Nat → Nat → Bool} {n t h r : Nat} {D : Nat → Int} {q : List Nat} (hb : BF E n t D (h :: q)) (hr : r < n) (hD : D r < 0) (he : E r h = true) : BF E n t (updD D r (D h + 1)) (h :: (q ++ [r])) ∧ unm n (seenD (updD D r (D h + 1))) + 1 ≤ unm n (seenD D) := by
  have hh := hb.qs h List.mem_cons_self
  have hhr : h ≠ r := fun e => by subst e; omega
  have hsame : ∀ x, x ≠ r → updD D r (D h + 1) x = D x := fun x hx => by simp [updD, hx]
  have hnew : updD D r (D h + 1) r = D h + 1 := by simp [updD]
  have hu : unm n (seenD (updD D r (D h + 1))) + 1 ≤ unm n (seenD D) := by
    have h1 := unm_mark (n := n) (A := seenD D) hr (by simp [seenD]; omega)
    rw [unm_congr (B := markA (seenD D) r)]
    · omega
    · intro a _
      unfold seenD markA updD
      by_cases e : a = r
      · simp [e]; omega
      · simp [e]
  have hqr : r ∉ h :: q := fun hm => by have := (hb.qs r hm).2; omega
  refine ⟨⟨?_, fun a ha => ?_, fun a ha h0 => ?_, fun a ha h0 => ?_, fun x hx => ?_, fun b hbn h0 hnq a ha hE => ?_, ?_, fun h' hh' a ha => ?_, fun a ha => ?_, ?_⟩, hu⟩
  · rw [hsame t (fun e => by have := hb.z; rw [e] at this; omega)]; exact hb.z
  · by_cases e : a = r
    · subst e; rw [hnew]; omega
    · rw [hsame a e]; exact hb.lo a ha
  · by_cases e : a = r
    · subst e; rw [hnew] at h0; omega
    · rw [hsame a e] at h0; exact hb.zt a ha h0
  · by_cases e : a = r
    · subst e; exact ⟨h, hh.1, he, by rw [hnew, hsame h hhr]; omega⟩
    · rw [hsame a e] at h0 ⊢
      obtain ⟨b, h1, h2, h3⟩ := hb.dn a ha h0
      exact ⟨b, h1, h2, by rw [hsame b (fun e2 => by subst e2; omega)]; exact h3⟩
  · rcases List.mem_cons.1 hx with e | hx
    · subst e; rw [hsame x hhr]; exact hh
    · rcases List.mem_append.1 hx with hx | hx
      · have h1 := hb.qs x (List.mem_cons_of_mem _ hx)
        rw [hsame x (fun e => by subst e; omega)]; exact h1
      · have : x = r := by simpa using hx
        subst this; exact ⟨hr, by rw [hnew]; omega⟩
  · have hbr : b ≠ r := fun e => hnq (by rw [e]; simp)
    rw [hsame b hbr] at h0 ⊢
    have h1 := hb.pr b hbn h0 (fun hm => hnq (by
      rcases List.mem_cons.1 hm with e | hm
      · rw [e]; simp
      · simp [hm])) a ha hE
    by_cases e : a = r
    · subst e; omega
    · rw [hsame a e]; exact h1
  · have hpw := hb.so
    have hmap : ∀ x ∈ h :: q, updD D r (D h + 1) x = D x := fun x hx => hsame x (fun e => hqr (by rw [← e]; exact hx))
    have h1 : (h :: q).Pairwise fun x y => updD D r (D h + 1) x ≤ updD D r (D h + 1) y :=
      hpw.imp_of_mem fun hx hy hxy => by rw [hmap _ hx, hmap _ hy]; exact hxy
    rw [← List.cons_append, List.pairwise_append]
    refine ⟨h1, List.pairwise_singleton _ _, fun x hx y hy => ?_⟩
    have : y = r := by simpa using hy
    subst this
    rw [hnew, hmap x hx]
    exact hb.top h rfl x (hb.qs x hx).1
  · have : h' = h := by simpa using hh'.symm
    subst this
    rw [hsame h' hhr]
    by_cases e : a = r
    · subst e; rw [hnew]; omega
    · rw [hsame a e]; exact hb.top h' rfl a ha
  · by_cases e : a = r
    · subst e; rw [hnew]; have := hb.bd h hh.1; omega
    · rw [hsame a e]; have := hb.bd a ha; omega
  · have := hb.ql; simp only [List.length_cons, List.length_append, List.length_nil] at this ⊢; omega
theorem BF.dist {E : Nat → Nat → Bool} {n t : Nat} {D : Nat → Int} (h : BF E n t D []) : IsDist E n t D :=
  ⟨h.z, h.lo, h.zt, h.dn, fun a b ha hb he h0 => h.pr b hb h0 (by simp) a ha he⟩
end Go.Proofs.Ytdehpaikapbckaa
