/- Marks along uses: plain Lean. -/
import Derived.Test.YtdehpaikapbckaaW11
namespace Go.Proofs.Ytdehpaikapbckaa
theorem flen_le {p q : Nat → Bool} : ∀ {l : List Nat}, (∀ x ∈ l, p x = true → q x = true) → (l.filter p).length ≤ (l.filter q).length
  | [], _ => by simp
  | x :: l, h => by
    have ih := flen_le (p := p) (q := q) (l := l) (fun y hy => h y (List.mem_cons_of_mem _ hy))
    have hx := h x List.mem_cons_self
    simp only [List.filter_cons]
    cases hp : p x with
    | true => rw [hx hp]; simp; omega
    | false => cases q x <;> simp <;> omega
theorem flen_lt {p q : Nat → Bool} {y : Nat} : ∀ {l : List Nat}, (∀ x ∈ l, p x = true → q x = true) → y ∈ l → q y = true → p y = false → (l.filter p).length < (l.filter q).length
  | [], _, hy, _, _ => by simp at hy
  | x :: l, h, hy, hq, hp => by
    have hx := h x List.mem_cons_self
    simp only [List.filter_cons]
    by_cases hxy : x = y
    · subst hxy
      have := flen_le (p := p) (q := q) (l := l) (fun z hz => h z (List.mem_cons_of_mem _ hz))
      rw [hq, hp]; simp; omega
    · have hyl : y ∈ l := by rcases List.mem_cons.1 hy with h1 | h1; exact absurd h1.symm hxy; exact h1
      have ih := flen_lt (p := p) (q := q) (l := l) (fun z hz => h z (List.mem_cons_of_mem _ hz)) hyl hq hp
      cases hpx : p x with
      | true => rw [hx hpx]; simp; omega
      | false => cases q x <;> simp <;> omega
def unm (n : Nat) (A : Nat → Bool) : Nat := ((List.range n).filter fun s => !A s).length
def markA (A : Nat → Bool) (s t : Nat) : Bool := if t = s then true else A t
theorem unm_mono {n : Nat} {A A' : Nat → Bool} (h : ∀ s, A s = true → A' s = true) : unm n A' ≤ unm n A := flen_le fun x _ hx => by
  cases hA : A x with
  | false => rfl
  | true => simp [h x hA] at hx
theorem unm_mark {n : Nat} {A : Nat → Bool} {s : Nat} (hs : s < n) (h : A s = false) : unm n (markA A s) < unm n A :=
  flen_lt (y := s) (fun x _ hx => by
    by_cases he : x = s
    · subst he; simp [markA] at hx
    · simpa [markA, he] using hx) (by simpa using hs) (by simp [h]) (by simp [markA])
structure StageOk (E : Nat → Nat → Bool) (n r : Nat) (A A' : Nat → Bool) : Prop where
  mono : ∀ s, A s = true → A' s = true
  sound : ∀ s, s < n → A' s = true → A s = true ∨ fwM E n r s = true
  cl : ∀ s, s < n → A' s = true → A s = false → ∀ t, t < n → E s t = true → A' t = true
  big : ∀ s, n ≤ s → A' s = A s
structure LookOk (E : Nat → Nat → Bool) (n r : Nat) (A A' : Nat → Bool) : Prop extends StageOk E n r A A' where
  dir : ∀ t, t < n → E r t = true → A' t = true
theorem StageOk.start (E : Nat → Nat → Bool) (n r : Nat) (A : Nat → Bool) : StageOk E n r A A := ⟨fun _ h => h, fun _ _ h => .inl h, fun s _ h1 h2 => absurd h1 (by rw [h2]; simp), fun _ _ => rfl⟩
theorem StageOk.step {E : Nat → Nat → Bool} {n r s : Nat} {A A1 A2 : Nat → Bool} (h : StageOk E n r A A1) (hs : s < n) (he : E r s = true) (h1 : A1 s = false) (hl : LookOk E n s (markA A1 s) A2) : StageOk E n r A A2 ∧ (∀ t, A1 t = true → A2 t = true) ∧ A2 s = true := by
  have m1 : ∀ t, A1 t = true → A2 t = true := fun t ht => hl.mono t (by by_cases e : t = s <;> simp [markA, e, ht])
  have m2 : A2 s = true := hl.mono s (by simp [markA])
  refine ⟨⟨fun t ht => m1 t (h.mono t ht), ?_, ?_, ?_⟩, m1, m2⟩
  · intro t ht ha
    rcases hl.sound t ht ha with hb | hb
    · by_cases e : t = s
      · subst e; exact .inr (fw_E he)
      · exact h.sound t ht (by simpa [markA, e] using hb)
    · exact .inr (fw_trans hs (fw_E he) hb)
  · intro u hu ha hA t ht hE
    cases hb : markA A1 s u with
    | false => exact hl.cl u hu ha hb t ht hE
    | true =>
      by_cases e : u = s
      · subst e; exact hl.dir t ht hE
      · exact m1 t (h.cl u hu (by simpa [markA, e] using hb) hA t ht hE)
  · intro u hu
    have e : u ≠ s := by omega
    rw [hl.big u hu]; simp [markA, e, h.big u hu]
/-- From nothing: just what one leads to. -/
theorem LookOk.is {E : Nat → Nat → Bool} {n r : Nat} {A' : Nat → Bool} (h : LookOk E n r (fun _ => false) A') (hr : r < n) : ∀ s, s < n → A' s = fwM E n r s := by
  intro s hs
  rw [Bool.eq_iff_iff]
  constructor
  · intro ha
    rcases h.sound s hs ha with h1 | h1
    · cases h1
    · exact h1
  · intro hf
    rcases fw_first hr hs hf with h1 | ⟨c, hc, h1, h2⟩
    · exact h.dir s hs h1
    · exact fw_least (fun x => A' x = true) (fun a b ha hb hx he => h.cl a ha hx rfl b hb he) (Nat.le_refl n) hc hs (h.dir c hc h1) h2
end Go.Proofs.Ytdehpaikapbckaa
