/- The order of blocks: plain Lean. -/
import Derived.Test.YtdehpaikapbckaaMat
namespace Go.Proofs.Ytdehpaikapbckaa
def TransM (n : Nat) (M : Nat → Nat → Bool) : Prop := ∀ a b c, a < n → b < n → c < n → M a b = true → M b c = true → M a c = true
theorem fw_TransM (E : Nat → Nat → Bool) (n : Nat) : TransM n (fwM E n) := fun _ _ _ _ hb _ h1 h2 => fw_trans hb h1 h2
def blockS (n : Nat) (M : Nat → Nat → Bool) (a : Nat) : List Nat := (List.range n).filter fun b => a == b || (M a b && M b a)
def readyS (n : Nat) (M : Nat → Nat → Bool) (done : List Nat) (a : Nat) : Bool := !done.contains a && (List.range n).all fun b => !M a b || ((blockS n M a).contains b || done.contains b)
def pickS (n : Nat) (M : Nat → Nat → Bool) (done : List Nat) : Option Nat := (List.range n).find? (readyS n M done)
def orderS (n : Nat) (M : Nat → Nat → Bool) : Nat → List Nat → List (List Nat)
  | 0, _ => []
  | f + 1, done => match pickS n M done with
    | none => []
    | some a => blockS n M a :: orderS n M f (done ++ blockS n M a)
structure GoodD (n : Nat) (M : Nat → Nat → Bool) (done : List Nat) : Prop where
  nd : done.Nodup
  lt : ∀ a ∈ done, a < n
  cl : ∀ a ∈ done, ∀ b, b < n → M a b = true → b ∈ done
theorem GoodD.nil (n : Nat) (M : Nat → Nat → Bool) : GoodD n M [] := ⟨List.nodup_nil, by simp, by simp⟩
theorem mem_blockS {n : Nat} {M : Nat → Nat → Bool} {a b : Nat} : b ∈ blockS n M a ↔ b < n ∧ (a = b ∨ (M a b = true ∧ M b a = true)) := by
  simp [blockS, List.mem_filter]
theorem blockS_nodup (n : Nat) (M : Nat → Nat → Bool) (a : Nat) : (blockS n M a).Nodup := List.Nodup.sublist List.filter_sublist List.nodup_range
theorem readyS_iff {n : Nat} {M : Nat → Nat → Bool} {done : List Nat} {a : Nat} : readyS n M done a = true ↔ a ∉ done ∧ ∀ b, b < n → M a b = true → b ∈ blockS n M a ∨ b ∈ done := by
  simp only [readyS, Bool.and_eq_true, Bool.not_eq_true', List.all_eq_true, List.mem_range, Bool.or_eq_true, List.contains_iff_mem]
  constructor
  · rintro ⟨h1, h2⟩
    refine ⟨by simpa using h1, fun b hb hm => ?_⟩
    rcases h2 b hb with h | h
    · rw [hm] at h; cases h
    · exact h
  · rintro ⟨h1, h2⟩
    refine ⟨by simpa using h1, fun b hb => ?_⟩
    cases hm : M a b with
    | false => exact .inl rfl
    | true => exact .inr (h2 b hb hm)
theorem pickS_some {n : Nat} {M : Nat → Nat → Bool} {done : List Nat} {a : Nat} (h : pickS n M done = some a) : a < n ∧ readyS n M done a = true := by
  unfold pickS at h
  exact ⟨by simpa using List.mem_of_find?_eq_some h, List.find?_some h⟩
theorem GoodD.step {n : Nat} {M : Nat → Nat → Bool} (ht : TransM n M) {done : List Nat} (hg : GoodD n M done) {a : Nat} (ha : a < n) (hr : readyS n M done a = true) : GoodD n M (done ++ blockS n M a) := by
  obtain ⟨h1, h2⟩ := readyS_iff.1 hr
  refine ⟨?_, ?_, ?_⟩
  · rw [List.nodup_append]
    refine ⟨hg.nd, blockS_nodup n M a, ?_⟩
    rintro x hx y hy rfl
    obtain ⟨hxn, h | ⟨_, h⟩⟩ := mem_blockS.1 hy
    · subst h; exact h1 hx
    · exact h1 (hg.cl x hx a ha h)
  · intro x hx
    rcases List.mem_append.1 hx with h | h
    · exact hg.lt x h
    · exact (mem_blockS.1 h).1
  · intro x hx b hb hm
    rcases List.mem_append.1 hx with h | h
    · exact List.mem_append_left _ (hg.cl x h b hb hm)
    · obtain ⟨hxn, h | ⟨h3, h4⟩⟩ := mem_blockS.1 h
      · subst h
        rcases h2 b hb hm with h | h
        · exact List.mem_append_right _ h
        · exact List.mem_append_left _ h
      · rcases h2 b hb (ht a x b ha hxn hb h3 hm) with h | h
        · exact List.mem_append_right _ h
        · exact List.mem_append_left _ h
/-- While some are left one is ready. -/
theorem some_ready {n : Nat} {M : Nat → Nat → Bool} (ht : TransM n M) {done : List Nat} {a0 : Nat} (h0 : a0 < n) (hd0 : a0 ∉ done) : ∃ a, a < n ∧ readyS n M done a = true := by
  have key : ∀ c, c ≤ n → ∃ a, a < n ∧ a ∉ done ∧ ∀ b, b < c → b ∉ done → M a b = true → M b a = true := by
    intro c
    induction c with
    | zero => exact fun _ => ⟨a0, h0, hd0, fun b hb => by omega⟩
    | succ c ih =>
      intro hc
      obtain ⟨a, h1, h2, h3⟩ := ih (by omega)
      by_cases hx : c ∉ done ∧ M a c = true ∧ M c a ≠ true
      · refine ⟨c, by omega, hx.1, fun b hb hbd hm => ?_⟩
        by_cases hbc : b = c
        · subst hbc; exact hm
        · have h4 := ht a c b h1 (by omega) (by omega) hx.2.1 hm
          have h5 := h3 b (by omega) hbd h4
          exact ht b a c (by omega) h1 (by omega) h5 hx.2.1
      · refine ⟨a, h1, h2, fun b hb hbd hm => ?_⟩
        by_cases hbc : b = c
        · subst hbc
          by_cases hm2 : M b a = true
          · exact hm2
          · exact absurd ⟨hbd, hm, hm2⟩ hx
        · exact h3 b (by omega) hbd hm
  obtain ⟨a, h1, h2, h3⟩ := key n (Nat.le_refl _)
  refine ⟨a, h1, readyS_iff.2 ⟨h2, fun b hb hm => ?_⟩⟩
  by_cases hbd : b ∈ done
  · exact .inr hbd
  · exact .inl (mem_blockS.2 ⟨hb, .inr ⟨hm, h3 b hb hbd hm⟩⟩)
theorem left_over {n : Nat} {done : List Nat} (hl : done.length < n) : ∃ a, a < n ∧ a ∉ done := by
  apply Classical.byContradiction
  intro h
  have : ∀ a, a < n → a ∈ done := fun a ha => Classical.byContradiction fun h2 => h ⟨a, ha, h2⟩
  have := (List.nodup_range (n := n)).length_le_of_subset (l₂ := done) (fun a ha => this a (by simpa using ha))
  simp at this; omega
theorem all_done {n : Nat} {M : Nat → Nat → Bool} {done : List Nat} (hg : GoodD n M done) (hl : n ≤ done.length) : ∀ a, a < n → a ∈ done := by
  intro a ha
  apply Classical.byContradiction
  intro h
  have : (a :: done).Nodup := List.nodup_cons.2 ⟨h, hg.nd⟩
  have := this.length_le_of_subset (l₂ := List.range n) (fun b hb => by
    rcases List.mem_cons.1 hb with rfl | hb
    · simpa using ha
    · simpa using hg.lt b hb)
  simp at this; omega
theorem pickS_none {n : Nat} {M : Nat → Nat → Bool} {done : List Nat} : pickS n M done = none ↔ ∀ a, a < n → readyS n M done a = false := by
  simp [pickS]
theorem pick_end {n : Nat} {M : Nat → Nat → Bool} {done : List Nat} (hg : GoodD n M done) (hl : n ≤ done.length) : pickS n M done = none :=
  pickS_none.2 fun a ha => by
    rw [Bool.eq_false_iff]; intro h
    exact (readyS_iff.1 h).1 (all_done hg hl a ha)
theorem pickS_is {n : Nat} {M : Nat → Nat → Bool} {done : List Nat} {a : Nat} (ha : a < n) (hr : readyS n M done a = true) (hl : ∀ b, b < a → readyS n M done b = false) : pickS n M done = some a := by
  unfold pickS
  rw [List.find?_eq_some_iff_append]
  refine ⟨hr, List.range a, (List.range' (a + 1) (n - a - 1)), ?_, ?_⟩
  · have e : n = a + (1 + (n - a - 1)) := by omega
    conv => lhs; rw [e, List.range_add]
    congr 1
    rw [show 1 + (n - a - 1) = (n - a - 1) + 1 by omega, List.range_succ_eq_map]
    simp [List.range'_eq_map_range, Nat.add_assoc, Nat.add_comm, Nat.add_left_comm, Function.comp_def]
  · intro b hb
    have := hl b (by simpa using hb)
    simp [this]
theorem orderS_end {n : Nat} {M : Nat → Nat → Bool} {done : List Nat} (h : pickS n M done = none) (f : Nat) : orderS n M f done = [] := by
  cases f with
  | zero => rfl
  | succ f => simp [orderS, h]
theorem orderS_step {n : Nat} {M : Nat → Nat → Bool} {done : List Nat} {a f : Nat} (h : pickS n M done = some a) : orderS n M (f + 1) done = blockS n M a :: orderS n M f (done ++ blockS n M a) := by
  simp [orderS, h]
theorem self_block {n : Nat} {M : Nat → Nat → Bool} {a : Nat} (h : a < n) : a ∈ blockS n M a := mem_blockS.2 ⟨h, .inl rfl⟩
/-- No denial in a block. -/
def ordB (n : Nat) (D M : Nat → Nat → Bool) : Bool := (List.range n).all fun a => (List.range n).all fun b => !(D a b && (a == b || M b a))
theorem ordB_iff {n : Nat} {D M : Nat → Nat → Bool} : ordB n D M = true ↔ ∀ a b, a < n → b < n → D a b = true → ¬ (a = b ∨ M b a = true) := by
  simp only [ordB, List.all_eq_true, List.mem_range, Bool.not_eq_true', Bool.and_eq_false_iff]
  constructor
  · intro h a b ha hb hd hx
    rcases h a ha b hb with h1 | h1
    · rw [hd] at h1; cases h1
    · rcases hx with hx | hx <;> simp [hx] at h1
  · intro h a ha b hb
    cases hd : D a b with
    | false => exact .inl rfl
    | true =>
      right
      have := h a b ha hb hd
      rw [Bool.eq_false_iff]
      intro hx; simp at hx; exact this hx
end Go.Proofs.Ytdehpaikapbckaa
