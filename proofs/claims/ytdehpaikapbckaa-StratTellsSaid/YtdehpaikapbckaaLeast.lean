/- The document's levels are the least that fit: plain Lean. -/
import Derived.Test.YtdehpaikapbckaaW17
namespace Go.Proofs.Ytdehpaikapbckaa
/-- Levels that fit. -/
structure Fits (E D : Nat → Nat → Bool) (n : Nat) (L : Nat → Int) : Prop where
  pos : ∀ a, a < n → 0 ≤ L a
  use : ∀ a b, a < n → b < n → E a b = true → L b ≤ L a
  den : ∀ a b, a < n → b < n → D a b = true → L b + 1 ≤ L a
theorem needS_ge {E D : Nat → Nat → Bool} {own : List Nat} {L : Nat → Int} {a b : Nat} {m : Int} : m ≤ needS E D own L a m b ∧ (b ∉ own → E a b = true → L b ≤ needS E D own L a m b) ∧ (D a b = true → L b + 1 ≤ needS E D own L a m b) := by
  unfold needS
  simp only
  refine ⟨?_, ?_, ?_⟩
  · split <;> split <;> omega
  · intro h1 h2
    have h3 : own.contains b = false ∧ E a b = true := ⟨by simpa using h1, h2⟩
    rw [if_pos h3]; split <;> omega
  · intro h; rw [if_pos h]; omega
theorem needS_up {E D : Nat → Nat → Bool} {own : List Nat} {L : Nat → Int} {a b : Nat} {m X : Int} (hm : m ≤ X) (h1 : b ∉ own → E a b = true → L b ≤ X) (h2 : D a b = true → L b + 1 ≤ X) : needS E D own L a m b ≤ X := by
  unfold needS
  simp only
  have h3 : (if own.contains b = false ∧ E a b = true then max m (L b) else m) ≤ X := by
    split
    · rename_i h; have := h1 (by simpa using h.1) h.2; omega
    · exact hm
  split
  · rename_i h; have := h2 h; omega
  · exact h3
theorem needA_ge {E D : Nat → Nat → Bool} {own : List Nat} {L : Nat → Int} {a : Nat} {m : Int} : ∀ k, m ≤ needA E D own L a m k ∧ ∀ b, b < k → (b ∉ own → E a b = true → L b ≤ needA E D own L a m k) ∧ (D a b = true → L b + 1 ≤ needA E D own L a m k) := by
  intro k
  induction k with
  | zero => exact ⟨by simp [needA], fun b hb => by omega⟩
  | succ k ih =>
    rw [needA_succ]
    have h := needS_ge (E := E) (D := D) (own := own) (L := L) (a := a) (b := k) (m := needA E D own L a m k)
    refine ⟨Int.le_trans ih.1 h.1, fun b hb => ?_⟩
    by_cases hbk : b = k
    · subst hbk; exact h.2
    · have := ih.2 b (by omega)
      exact ⟨fun h1 h2 => Int.le_trans (this.1 h1 h2) h.1, fun h1 => Int.le_trans (this.2 h1) h.1⟩
theorem needA_up {E D : Nat → Nat → Bool} {own : List Nat} {L : Nat → Int} {a : Nat} {m X : Int} (hm : m ≤ X) : ∀ k, (∀ b, b < k → (b ∉ own → E a b = true → L b ≤ X) ∧ (D a b = true → L b + 1 ≤ X)) → needA E D own L a m k ≤ X := by
  intro k
  induction k with
  | zero => intro _; exact hm
  | succ k ih => intro h; rw [needA_succ]; exact needS_up (ih fun b hb => h b (by omega)) (h k (by omega)).1 (h k (by omega)).2
theorem needB_ge {E D : Nat → Nat → Bool} {n : Nat} {own : List Nat} {L : Nat → Int} : ∀ (xs : List Nat) (m : Int), m ≤ xs.foldl (fun m a => needA E D own L a m n) m ∧ ∀ a ∈ xs, ∀ b, b < n → (b ∉ own → E a b = true → L b ≤ xs.foldl (fun m a => needA E D own L a m n) m) ∧ (D a b = true → L b + 1 ≤ xs.foldl (fun m a => needA E D own L a m n) m) := by
  intro xs
  induction xs with
  | nil => intro m; exact ⟨Int.le_refl _, by simp⟩
  | cons x xs ih =>
    intro m
    have h1 := needA_ge (E := E) (D := D) (own := own) (L := L) (a := x) (m := m) n
    have h2 := ih (needA E D own L x m n)
    refine ⟨Int.le_trans h1.1 h2.1, fun a ha b hb => ?_⟩
    rcases List.mem_cons.1 ha with rfl | ha
    · have := h1.2 b hb
      exact ⟨fun h3 h4 => Int.le_trans (this.1 h3 h4) h2.1, fun h3 => Int.le_trans (this.2 h3) h2.1⟩
    · exact h2.2 a ha b hb
theorem needB_up {E D : Nat → Nat → Bool} {n : Nat} {own : List Nat} {L : Nat → Int} {X : Int} : ∀ (xs : List Nat) (m : Int), m ≤ X → (∀ a ∈ xs, ∀ b, b < n → (b ∉ own → E a b = true → L b ≤ X) ∧ (D a b = true → L b + 1 ≤ X)) → xs.foldl (fun m a => needA E D own L a m n) m ≤ X := by
  intro xs
  induction xs with
  | nil => intro m h _; exact h
  | cons x xs ih => intro m h hx; exact ih _ (needA_up h n (hx x List.mem_cons_self)) (fun a ha => hx a (List.mem_cons_of_mem _ ha))
def stepL (E D : Nat → Nat → Bool) (n : Nat) (L : Nat → Int) (own : List Nat) : Nat → Int := setL own (needB E D n own L own) L
structure Part (E D : Nat → Nat → Bool) (n : Nat) (done : List Nat) (L : Nat → Int) : Prop where
  good : GoodD n (fwM E n) done
  pos : ∀ a, 0 ≤ L a
  use : ∀ a ∈ done, ∀ b, b < n → E a b = true → L b ≤ L a
  den : ∀ a ∈ done, ∀ b, b < n → D a b = true → L b + 1 ≤ L a
  low : ∀ L', Fits E D n L' → ∀ a ∈ done, L a ≤ L' a
theorem Fits.way {E D : Nat → Nat → Bool} {n : Nat} {L : Nat → Int} (h : Fits E D n L) {a b : Nat} (ha : a < n) (hb : b < n) (hm : fwM E n a b = true) : L b ≤ L a :=
  fw_least (fun x => L x ≤ L a) (fun x y hx hy hX he => Int.le_trans (h.use x y hx hy he) hX) (Nat.le_refl n) ha hb (Int.le_refl _) hm
theorem Part.step {E D : Nat → Nat → Bool} {n : Nat} (hDE : ∀ a b, D a b = true → E a b = true) (ho : ordB n D (fwM E n) = true) {done : List Nat} {L : Nat → Int} (h : Part E D n done L) {a0 : Nat} (ha0 : a0 < n) (hr : readyS n (fwM E n) done a0 = true) :
    Part E D n (done ++ blockS n (fwM E n) a0) (stepL E D n L (blockS n (fwM E n) a0)) := by
  have hg2 := h.good.step (fw_TransM E n) ha0 hr
  obtain ⟨hnd0, hrd⟩ := readyS_iff.1 hr
  have hv := needB_ge (E := E) (D := D) (n := n) (own := blockS n (fwM E n) a0) (L := L) (blockS n (fwM E n) a0) 0
  have hvd : needB E D n (blockS n (fwM E n) a0) L (blockS n (fwM E n) a0) = (blockS n (fwM E n) a0).foldl (fun m a => needA E D (blockS n (fwM E n) a0) L a m n) 0 := rfl
  rw [← hvd] at hv
  -- two of a block lead to one another
  have hsame : ∀ a b, a ∈ blockS n (fwM E n) a0 → b ∈ blockS n (fwM E n) a0 → a = b ∨ (fwM E n a b = true ∧ fwM E n b a = true) := by
    intro a b ha hb
    obtain ⟨han, ha⟩ := mem_blockS.1 ha
    obtain ⟨hbn, hb⟩ := mem_blockS.1 hb
    rcases ha with rfl | ⟨h1, h2⟩ <;> rcases hb with rfl | ⟨h3, h4⟩
    · exact .inl rfl
    · exact .inr ⟨h3, h4⟩
    · exact .inr ⟨h2, h1⟩
    · exact .inr ⟨fw_trans ha0 h2 h3, fw_trans ha0 h4 h1⟩
  -- a use out of the block goes to what is done
  have hout : ∀ a b, a ∈ blockS n (fwM E n) a0 → b < n → E a b = true → b ∉ blockS n (fwM E n) a0 → b ∈ done := by
    intro a b ha hb he hnb
    obtain ⟨han, ha⟩ := mem_blockS.1 ha
    have hm : fwM E n a0 b = true := by
      rcases ha with rfl | ⟨h1, _⟩
      · exact fw_E he
      · exact fw_trans han h1 (fw_E he)
    rcases hrd b hb hm with h1 | h1
    · exact absurd h1 hnb
    · exact h1
  -- a denial leaves the block
  have hden : ∀ a b, a ∈ blockS n (fwM E n) a0 → b < n → D a b = true → b ∉ blockS n (fwM E n) a0 := by
    intro a b ha hb hd hbb
    have h1 := ordB_iff.1 ho a b (mem_blockS.1 ha).1 hb hd
    rcases hsame a b ha hbb with h2 | h2
    · exact h1 (.inl h2)
    · exact h1 (.inr h2.2)
  have hin : ∀ x, x ∈ blockS n (fwM E n) a0 → stepL E D n L (blockS n (fwM E n) a0) x = needB E D n (blockS n (fwM E n) a0) L (blockS n (fwM E n) a0) := by
    intro x hx; unfold stepL setL; rw [if_pos (by simpa using hx)]
  have hno : ∀ x, x ∉ blockS n (fwM E n) a0 → stepL E D n L (blockS n (fwM E n) a0) x = L x := by
    intro x hx; unfold stepL setL; rw [if_neg (by simpa using hx)]
  have hdis : ∀ x ∈ done, x ∉ blockS n (fwM E n) a0 := by
    intro x hx hb
    have := hg2.nd
    rw [List.nodup_append] at this
    exact this.2.2 x hx x hb rfl
  refine ⟨hg2, ?_, ?_, ?_, ?_⟩
  · intro x
    by_cases hx : x ∈ blockS n (fwM E n) a0
    · rw [hin x hx]; exact hv.1
    · rw [hno x hx]; exact h.pos x
  · intro a ha b hb he
    rcases List.mem_append.1 ha with ha | ha
    · rw [hno a (hdis a ha)]
      have hbd := h.good.cl a ha b hb (fw_E he)
      rw [hno b (hdis b hbd)]; exact h.use a ha b hb he
    · rw [hin a ha]
      by_cases hbb : b ∈ blockS n (fwM E n) a0
      · rw [hin b hbb]; exact Int.le_refl _
      · rw [hno b hbb]; exact (hv.2 a ha b hb).1 hbb he
  · intro a ha b hb hd
    rcases List.mem_append.1 ha with ha | ha
    · rw [hno a (hdis a ha)]
      have hbd := h.good.cl a ha b hb (fw_E (hDE a b hd))
      rw [hno b (hdis b hbd)]; exact h.den a ha b hb hd
    · rw [hin a ha, hno b (hden a b ha hb hd)]; exact (hv.2 a ha b hb).2 hd
  · intro L' hL a ha
    rcases List.mem_append.1 ha with ha | ha
    · rw [hno a (hdis a ha)]; exact h.low L' hL a ha
    · rw [hin a ha]
      have han := (mem_blockS.1 ha).1
      refine needB_up _ 0 (hL.pos a han) fun x hx b hb => ⟨fun hbb he => ?_, fun hd => ?_⟩
      · have hxn := (mem_blockS.1 hx).1
        have h1 := h.low L' hL b (hout x b hx hb he hbb)
        have h2 := hL.use x b hxn hb he
        have h3 : L' x ≤ L' a := by
          rcases hsame a x ha hx with h4 | h4
          · rw [h4]; exact Int.le_refl _
          · exact hL.way han hxn h4.1
        omega
      · have hxn := (mem_blockS.1 hx).1
        have h1 := h.low L' hL b (hout x b hx hb (hDE x b hd) (hden x b hx hb hd))
        have h2 := hL.den x b hxn hb hd
        have h3 : L' x ≤ L' a := by
          rcases hsame a x ha hx with h4 | h4
          · rw [h4]; exact Int.le_refl _
          · exact hL.way han hxn h4.1
        omega
theorem Part.all {E D : Nat → Nat → Bool} {n : Nat} (hDE : ∀ a b, D a b = true → E a b = true) (ho : ordB n D (fwM E n) = true) : ∀ (f : Nat) (done : List Nat) (L : Nat → Int), Part E D n done L → n ≤ f + done.length →
    ∃ done', (∀ a, a < n → a ∈ done') ∧ Part E D n done' ((orderS n (fwM E n) f done).foldl (stepL E D n) L) := by
  intro f
  induction f with
  | zero => intro done L h hf; exact ⟨done, all_done h.good (by omega), h⟩
  | succ f ih =>
    intro done L h hf
    cases hp : pickS n (fwM E n) done with
    | none =>
      refine ⟨done, fun a ha => ?_, by simp [orderS, hp]; exact h⟩
      apply Classical.byContradiction
      intro hd
      obtain ⟨x, hx, hr⟩ := some_ready (fw_TransM E n) ha hd
      have := pickS_none.1 hp x hx
      rw [hr] at this; cases this
    | some a0 =>
      obtain ⟨ha0, hr⟩ := pickS_some hp
      have hpos := List.length_pos_of_mem (self_block (M := fwM E n) ha0)
      obtain ⟨done', h1, h2⟩ := ih _ _ (h.step hDE ho ha0 hr) (by simp; omega)
      refine ⟨done', h1, ?_⟩
      rw [orderS_step hp]; exact h2
/-- The document's levels fit, and are the least. -/
theorem levels_least {E D : Nat → Nat → Bool} {n : Nat} (hDE : ∀ a b, D a b = true → E a b = true) (ho : ordB n D (fwM E n) = true) :
    Fits E D n (levelsF E D n (orderS n (fwM E n) n [])) ∧ ∀ L', Fits E D n L' → ∀ a, a < n → levelsF E D n (orderS n (fwM E n) n []) a ≤ L' a := by
  obtain ⟨done', h1, h2⟩ := Part.all hDE ho n [] (fun _ => 0) ⟨GoodD.nil _ _, by simp, by simp, by simp, by simp⟩ (by simp)
  have e : (orderS n (fwM E n) n []).foldl (stepL E D n) (fun _ => 0) = levelsF E D n (orderS n (fwM E n) n []) := rfl
  rw [e] at h2
  exact ⟨⟨fun a _ => h2.pos a, fun a b ha hb he => h2.use a (h1 a ha) b hb he, fun a b ha hb hd => h2.den a (h1 a ha) b hb hd⟩, fun L' hL a ha => h2.low L' hL a (h1 a ha)⟩
/-- What is left to rise. -/
def sumU (T L : Nat → Int) : Nat → Nat
  | 0 => 0
  | k + 1 => sumU T L k + (T k - L k).toNat
theorem sumU_le {T L L' : Nat → Int} : ∀ {n : Nat}, (∀ a, a < n → L a ≤ L' a) → sumU T L' n ≤ sumU T L n
  | 0, _ => Nat.le_refl _
  | n + 1, h => by
    have h1 := sumU_le (T := T) (n := n) (fun a ha => h a (by omega))
    have h2 := h n (by omega)
    simp only [sumU]; omega
theorem sumU_lt {T L L' : Nat → Int} {j : Nat} : ∀ {n : Nat}, (∀ a, a < n → L a ≤ L' a) → j < n → L j < L' j → L' j ≤ T j → sumU T L' n < sumU T L n
  | 0, _, hj, _, _ => by omega
  | n + 1, h, hj, h1, h2 => by
    by_cases hjn : j = n
    · subst hjn
      have h3 := sumU_le (T := T) (n := j) (fun a ha => h a (by omega))
      simp only [sumU]; omega
    · have h3 := sumU_lt (T := T) (n := n) (fun a ha => h a (by omega)) (by omega) h1 h2
      have h4 := h n (by omega)
      simp only [sumU]; omega
end Go.Proofs.Ytdehpaikapbckaa
