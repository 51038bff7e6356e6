/- Chains, and the widest times: for every input. No condition. -/
import Derived.Test.YteimjjpigohnhaaGreatSe
import Derived.Test.YteimjjpigohnhaaGreatSf
import Derived.Test.YteimjjpigohnhaaGreatRows
/- Pairs found by trying: what is found is the most, and what cannot be found shows why. -/
namespace Go.Proofs.YteimjjpigohnhaaGreat
open Go.Sl
/-- How many below a bound. -/
def cnt (n : Nat) (p : Nat → Bool) : Nat := (List.range n).countP p
theorem cnt_succ {n : Nat} {p : Nat → Bool} : cnt (n + 1) p = cnt n p + if p n = true then 1 else 0 := by
  unfold cnt
  rw [List.range_succ, List.countP_append, List.countP_singleton]
theorem cnt_congr {n : Nat} {p q : Nat → Bool} (h : ∀ i, i < n → p i = q i) : cnt n p = cnt n q := by
  unfold cnt
  refine List.countP_congr fun i hi => ?_
  rw [h i (List.mem_range.1 hi)]
theorem cnt_inj {K n : Nat} {p q : Nat → Bool} (f : Nat → Nat) (h : ∀ i, i < K → p i = true → f i < n ∧ q (f i) = true) (hj : ∀ i j, i < K → j < K → p i = true → p j = true → f i = f j → i = j) : cnt K p ≤ cnt n q := by
  unfold cnt
  rw [List.countP_eq_length_filter, List.countP_eq_length_filter]
  have hnd : (((List.range K).filter p).map f).Nodup := by
    refine List.pairwise_map.2 (List.Pairwise.imp_of_mem (fun {a b} ha hb hab e => ?_) (List.Pairwise.filter p List.nodup_range))
    have ha := List.mem_filter.1 ha
    have hb := List.mem_filter.1 hb
    exact hab (hj a b (List.mem_range.1 ha.1) (List.mem_range.1 hb.1) ha.2 hb.2 e)
  have := hnd.length_le_of_subset (l₂ := (List.range n).filter q) (fun y hy => by
    obtain ⟨a, ha, rfl⟩ := List.mem_map.1 hy
    have ha := List.mem_filter.1 ha
    have h2 := h a (List.mem_range.1 ha.1) ha.2
    exact List.mem_filter.2 ⟨List.mem_range.2 h2.1, h2.2⟩)
  simpa using this
theorem cnt_or {n : Nat} {p q : Nat → Bool} (h : ∀ i, i < n → p i = true → q i = false) : cnt n (fun i => p i || q i) = cnt n p + cnt n q := by
  induction n with
  | zero => rfl
  | succ n ih =>
    rw [cnt_succ, cnt_succ, cnt_succ, ih (fun i hi => h i (by omega))]
    have := h n (by omega)
    cases hp : p n <;> cases hq : q n <;> simp_all <;> omega
theorem cnt_not {n : Nat} {p : Nat → Bool} : cnt n (fun i => !p i) + cnt n p = n := by
  induction n with
  | zero => rfl
  | succ n ih =>
    rw [cnt_succ, cnt_succ]
    cases hp : p n <;> simp <;> omega
theorem cnt_le {n : Nat} {p : Nat → Bool} : cnt n p ≤ n := by have := cnt_not (n := n) (p := p); omega
theorem cnt_mono {n : Nat} {p q : Nat → Bool} (h : ∀ i, i < n → p i = true → q i = true) : cnt n p ≤ cnt n q :=
  cnt_inj id (fun i hi hp => ⟨hi, h i hi hp⟩) (fun _ _ _ _ _ _ e => e)
theorem cnt_len {n : Nat} {p : Nat → Bool} : ((List.range n).filter p).length = cnt n p := by unfold cnt; rw [List.countP_eq_length_filter]

section
variable {E : Nat → Nat → Bool} {n : Nat}
/-- Both sides of a state fit together. -/
structure Mat (E : Nat → Nat → Bool) (n : Nat) (s : Mt) : Prop where
  nm : ∀ i, 0 ≤ s.nx i → (s.nx i).toNat < n ∧ s.mate (s.nx i).toNat = i ∧ E i (s.nx i).toNat = true
  mn : ∀ j, j < n → 0 ≤ s.mate j → s.nx (s.mate j).toNat = j
/-- One more is found. -/
structure Found (E : Nat → Nat → Bool) (n i : Nat) (s s' : Mt) : Prop where
  nm : ∀ k, 0 ≤ s'.nx k → (s'.nx k).toNat < n ∧ s'.mate (s'.nx k).toNat = k ∧ E k (s'.nx k).toNat = true
  mn : ∀ j, j < n → 0 ≤ s'.mate j → s'.nx (s'.mate j).toNat = j ∨ (s'.mate j = i ∧ s.nx i = j)
  new : 0 ≤ s'.nx i
  fresh : s.tried (s'.nx i).toNat = false
  same : ∀ k, k ≠ i → (0 ≤ s'.nx k ↔ 0 ≤ s.nx k)
  mt : ∀ j, s.tried j = true → s'.mate j = s.mate j
  nx : ∀ k, k ≠ i → 0 ≤ s.nx k → s.tried (s.nx k).toNat = true → s'.nx k = s.nx k
/-- None is found: who was tried, and why. -/
structure Lost (E : Nat → Nat → Bool) (n : Nat) (l : List Nat) (s s' : Mt) : Prop where
  mate : s'.mate = s.mate
  nx : s'.nx = s.nx
  mono : ∀ j, s.tried j = true → s'.tried j = true
  all : ∀ j ∈ l, s'.tried j = true
  more : ∀ j, j < n → s'.tried j = true → s.tried j = true ∨ (0 ≤ s.mate j ∧ ∀ k, k < n → E (s.mate j).toNat k = true → s'.tried k = true)
theorem Lost.trans {l1 l2 : List Nat} {s s1 s' : Mt} (h1 : Lost E n l1 s s1) (h2 : Lost E n l2 s1 s') : Lost E n (l1 ++ l2) s s' :=
  ⟨h2.mate.trans h1.mate, h2.nx.trans h1.nx, fun j h => h2.mono j (h1.mono j h), fun j hj => by
    rcases List.mem_append.1 hj with h | h
    · exact h2.mono j (h1.all j h)
    · exact h2.all j h,
   fun j hj ht => by
    rcases h2.more j hj ht with h | ⟨h, q⟩
    · rcases h1.more j hj h with h | ⟨h, q⟩
      · exact .inl h
      · exact .inr ⟨h, fun k hk he => h2.mono k (q k hk he)⟩
    · rw [h1.mate] at h q
      exact .inr ⟨h, q⟩⟩
theorem Found.of_lost {i : Nat} {l : List Nat} {s s1 s' : Mt} (hl : Lost E n l s s1) (h : Found E n i s1 s') : Found E n i s s' :=
  ⟨h.nm, fun j hj h0 => by have := h.mn j hj h0; rw [hl.nx] at this; exact this, h.new,
   (by
    cases e : s.tried (s'.nx i).toNat with
    | false => rfl
    | true => have := hl.mono _ e; rw [h.fresh] at this; cases this),
   fun k hk => by rw [h.same k hk, hl.nx],
   fun j hj => by rw [h.mt j (hl.mono j hj), hl.mate],
   fun k hk h0 ht => by rw [h.nx k hk (by rw [hl.nx]; exact h0) (by rw [hl.nx]; exact hl.mono _ ht), hl.nx]⟩
theorem Lost.mat {l : List Nat} {s s1 : Mt} (hl : Lost E n l s s1) (h : Mat E n s) : Mat E n s1 :=
  ⟨fun i h0 => by rw [hl.nx] at h0 ⊢; rw [hl.mate]; exact h.nm i h0, fun j hj h0 => by rw [hl.mate] at h0 ⊢; rw [hl.nx]; exact h.mn j hj h0⟩
theorem link_nx {s : Mt} {i j k : Nat} : (s.link i j).nx k = if k = i then (j : Int) else s.nx k := rfl
theorem link_mate {s : Mt} {i j k : Nat} : (s.link i j).mate k = if k = j then (i : Int) else s.mate k := rfl
theorem found_free {s : Mt} {i j : Nat} (hm : Mat E n s) (hj : j < n) (he : E i j = true) (ht : s.tried j = false) (h0 : s.mate j < 0) : Found E n i s ((s.try' j).link i j) where
  nm := fun k hk => by
    rw [link_nx] at hk ⊢
    by_cases e : k = i
    · rw [if_pos e, link_mate]; subst e; simpa using ⟨hj, he⟩
    · rw [if_neg e] at hk ⊢
      have h1 := hm.nm k hk
      rw [link_mate, if_neg (fun e2 => by
        have h2 := h1.2.1; have e2 : (s.nx k).toNat = j := e2; rw [e2] at h2; omega)]
      exact h1
  mn := fun k hk hk0 => by
    rw [link_mate] at hk0 ⊢
    by_cases e : k = j
    · left; rw [if_pos e, link_nx]; subst e; simp
    · rw [if_neg e] at hk0 ⊢
      have h1 := hm.mn k hk hk0
      have hk0 : 0 ≤ s.mate k := hk0
      by_cases e2 : (s.mate k).toNat = i
      · right
        rw [e2] at h1
        exact ⟨by show s.mate k = i; omega, h1⟩
      · left
        show (if (s.mate k).toNat = i then (j : Int) else s.nx (s.mate k).toNat) = k
        rw [if_neg e2]; exact h1
  new := by rw [link_nx, if_pos rfl]; omega
  fresh := by rw [link_nx, if_pos rfl]; exact ht
  same := fun k hk => by rw [link_nx, if_neg hk]; rfl
  mt := fun k hk => by rw [link_mate, if_neg (fun e => by rw [e, ht] at hk; cases hk)]; rfl
  nx := fun k hk _ _ => by rw [link_nx, if_neg hk]; rfl
theorem tried_try {s : Mt} {j k : Nat} : (s.try' j).tried k = if k = j then true else s.tried k := rfl
theorem tried_mono {s : Mt} {j k : Nat} (h : s.tried k = true) : (s.try' j).tried k = true := by rw [tried_try]; split <;> simp [*]
theorem found_step {s s1 : Mt} {i j : Nat} (hm : Mat E n s) (hi : 0 ≤ s.nx i → s.tried (s.nx i).toNat = true) (hj : j < n) (he : E i j = true) (ht : s.tried j = false) (h0 : 0 ≤ s.mate j) (h : Found E n (s.mate j).toNat (s.try' j) s1) : Found E n i s (s1.link i j) := by
  have hjt : (s.try' j).tried j = true := by rw [tried_try, if_pos rfl]
  have hmj : s1.mate j = s.mate j := h.mt j hjt
  have hnj : s.nx (s.mate j).toNat = j := hm.mn j hj h0
  have hii : i ≠ (s.mate j).toNat := fun e => by
    have h1 := hi (by rw [e, hnj]; omega)
    rw [e, hnj] at h1
    rw [show ((j : Nat) : Int).toNat = j by omega, ht] at h1; cases h1
  have hfree : ∀ k, 0 ≤ s1.nx k → (s1.nx k).toNat ≠ j := fun k hk e => by
    have h1 := h.nm k hk
    rw [e, hmj] at h1
    have e2 : k = (s.mate j).toNat := by omega
    have h2 := h.fresh
    rw [← e2, e, hjt] at h2; cases h2
  exact {
    nm := fun k hk => by
      rw [link_nx] at hk ⊢
      by_cases e : k = i
      · rw [if_pos e, link_mate]; subst e; simpa using ⟨hj, he⟩
      · rw [if_neg e] at hk ⊢
        rw [link_mate, if_neg (hfree k hk)]
        exact h.nm k hk
    mn := fun k hk hk0 => by
      rw [link_mate] at hk0 ⊢
      by_cases e : k = j
      · left; rw [if_pos e, link_nx]; subst e; simp
      · rw [if_neg e] at hk0 ⊢
        have h1 : s1.nx (s1.mate k).toNat = k := by
          rcases h.mn k hk hk0 with h1 | ⟨_, h1⟩
          · exact h1
          · have h1 : s.nx (s.mate j).toNat = k := h1
            rw [hnj] at h1; omega
        by_cases e2 : (s1.mate k).toNat = i
        · right
          rw [e2] at h1
          refine ⟨by omega, ?_⟩
          have h3 : 0 ≤ s.nx i := (h.same i hii).1 (by omega)
          exact (h.nx i hii h3 (tried_mono (hi h3))).symm.trans h1
        · left
          rw [link_nx, if_neg e2]; exact h1
    new := by rw [link_nx, if_pos rfl]; omega
    fresh := by rw [link_nx, if_pos rfl]; exact ht
    same := fun k hk => by
      rw [link_nx, if_neg hk]
      by_cases e : k = (s.mate j).toNat
      · subst e
        exact ⟨fun _ => by rw [hnj]; omega, fun _ => h.new⟩
      · exact h.same k e
    mt := fun k hk => by
      rw [link_mate, if_neg (fun e => by rw [e, ht] at hk; cases hk)]
      exact h.mt k (tried_mono hk)
    nx := fun k hk hk0 hkt => by
      rw [link_nx, if_neg hk]
      refine h.nx k (fun e => ?_) hk0 (tried_mono hkt)
      rw [e, hnj, show ((j : Nat) : Int).toNat = j by omega, ht] at hkt; cases hkt }
theorem lost_step {s s1 : Mt} {j : Nat} (h0 : 0 ≤ s.mate j) (h : Lost E n (afterL E n (s.mate j).toNat) (s.try' j) s1) : Lost E n [j] s s1 where
  mate := h.mate
  nx := h.nx
  mono := fun k hk => h.mono k (tried_mono hk)
  all := fun k hk => by rw [List.mem_singleton.1 hk]; exact h.mono j (by rw [tried_try, if_pos rfl])
  more := fun k hk hkt => by
    rcases h.more k hk hkt with h1 | h1
    · rw [tried_try] at h1
      by_cases e : k = j
      · right; subst e
        exact ⟨h0, fun k2 hk2 he => h.all k2 (mem_afterL.2 ⟨hk2, he⟩)⟩
      · rw [if_neg e] at h1; exact .inl h1
    · exact .inr h1
theorem unt_lost {l : List Nat} {s s1 : Mt} (h : Lost E n l s s1) : unt n s1.tried ≤ unt n s.tried := unt_mono fun j _ hj => h.mono j hj
theorem augL_spec {rec : Nat → Mt → Mt × Bool} {i f : Nat} (hr : ∀ k s, unt n s.tried < f → Mat E n s → (0 ≤ s.nx k → s.tried (s.nx k).toNat = true) → ((rec k s).2 = true → Found E n k s (rec k s).1) ∧ ((rec k s).2 = false → Lost E n (afterL E n k) s (rec k s).1)) :
    ∀ (l : List Nat) (s : Mt), (∀ j ∈ l, j < n ∧ E i j = true) → unt n s.tried < f + 1 → Mat E n s → (0 ≤ s.nx i → s.tried (s.nx i).toNat = true) → ((augL rec i l s).2 = true → Found E n i s (augL rec i l s).1) ∧ ((augL rec i l s).2 = false → Lost E n l s (augL rec i l s).1)
  | [], s, _, _, _, _ => ⟨fun h => by simp [augL] at h, fun _ => ⟨rfl, rfl, fun _ h => h, fun _ h => by simp at h, fun _ _ h => .inl h⟩⟩
  | j :: r, s, hl, hf, hm, hi => by
    have hj := hl j List.mem_cons_self
    have hl2 : ∀ k ∈ r, k < n ∧ E i k = true := fun k hk => hl k (List.mem_cons_of_mem _ hk)
    unfold augL
    split
    · rename_i ht
      have ih := augL_spec hr r s hl2 hf hm hi
      have h1 : Lost E n [j] s s := ⟨rfl, rfl, fun _ h => h, fun k hk => by rw [List.mem_singleton.1 hk]; exact ht, fun _ _ h => .inl h⟩
      exact ⟨ih.1, fun h => h1.trans (ih.2 h)⟩
    · rename_i ht
      have ht : s.tried j = false := by simpa using ht
      split
      · rename_i h0
        exact ⟨fun _ => found_free hm hj.1 hj.2 ht h0, fun h => by cases h⟩
      · rename_i h0
        have h0 : 0 ≤ s.mate j := by omega
        have hnj := hm.mn j hj.1 h0
        have hrec := hr (s.mate j).toNat (s.try' j) (by have := unt_upd hj.1 ht; show unt n (upd s.tried j true) < f; omega) ⟨hm.nm, hm.mn⟩ (fun _ => by
          show (s.try' j).tried (s.nx (s.mate j).toNat).toNat = true
          rw [hnj, tried_try, if_pos (by omega)])
        split
        · rename_i hb
          exact ⟨fun _ => found_step hm hi hj.1 hj.2 ht h0 (hrec.1 hb), fun h => by cases h⟩
        · rename_i hb
          have h1 := lost_step h0 (hrec.2 (by simpa using hb))
          have ih := augL_spec hr r _ hl2 (Nat.lt_of_le_of_lt (unt_lost h1) hf) (h1.mat hm) (fun h => by rw [h1.nx] at h ⊢; exact h1.mono _ (hi h))
          exact ⟨fun h => (ih.1 h).of_lost h1, fun h => h1.trans (ih.2 h)⟩
theorem aug_spec : ∀ (f i : Nat) (s : Mt), unt n s.tried < f → Mat E n s → (0 ≤ s.nx i → s.tried (s.nx i).toNat = true) → ((aug E n f i s).2 = true → Found E n i s (aug E n f i s).1) ∧ ((aug E n f i s).2 = false → Lost E n (afterL E n i) s (aug E n f i s).1)
  | 0, _, _, h, _, _ => by omega
  | f + 1, i, s, hf, hm, hi => augL_spec (rec := aug E n f) (f := f) (fun k s h1 h2 h3 => aug_spec f k s h1 h2 h3) _ s (fun _ hj => mem_afterL.1 hj) hf hm hi

/-! What is shut stays so. -/
structure Shut (E : Nat → Nat → Bool) (n : Nat) (A T : Nat → Bool) (mate : Nat → Int) : Prop where
  out : ∀ i j, A i = true → j < n → E i j = true → T j = true
  back : ∀ j, j < n → T j = true → 0 ≤ mate j ∧ A (mate j).toNat = true
theorem augL_shut {A T : Nat → Bool} {rec : Nat → Mt → Mt × Bool} {i : Nat} (hr : ∀ k s, Shut E n A T s.mate → ((rec k s).2 = true → A k = false ∧ ∀ j, j < n → T j = true → (rec k s).1.mate j = s.mate j) ∧ ((rec k s).2 = false → (rec k s).1.mate = s.mate)) :
    ∀ (l : List Nat) (s : Mt), (∀ j ∈ l, j < n ∧ E i j = true) → Shut E n A T s.mate → ((augL rec i l s).2 = true → A i = false ∧ ∀ j, j < n → T j = true → (augL rec i l s).1.mate j = s.mate j) ∧ ((augL rec i l s).2 = false → (augL rec i l s).1.mate = s.mate)
  | [], s, _, _ => ⟨fun h => by simp [augL] at h, fun _ => rfl⟩
  | j :: r, s, hl, hs => by
    have hj := hl j List.mem_cons_self
    have hl2 : ∀ k ∈ r, k < n ∧ E i k = true := fun k hk => hl k (List.mem_cons_of_mem _ hk)
    unfold augL
    split
    · exact augL_shut hr r s hl2 hs
    · split
      · rename_i h0
        have hT : T j = false := by
          cases e : T j with
          | false => rfl
          | true => have := (hs.back j hj.1 e).1; omega
        refine ⟨fun _ => ⟨?_, fun k hk hkT => ?_⟩, fun h => by cases h⟩
        · cases e : A i with
          | false => rfl
          | true => have := hs.out i j e hj.1 hj.2; rw [hT] at this; cases this
        · show upd s.mate j (i : Int) k = s.mate k
          exact upd_ne _ _ (fun e => by rw [e, hT] at hkT; cases hkT)
      · rename_i h0
        have hrec := hr (s.mate j).toNat (s.try' j) hs
        split
        · rename_i hb
          have h1 := hrec.1 hb
          have hT : T j = false := by
            cases e : T j with
            | false => rfl
            | true => have := (hs.back j hj.1 e).2; rw [h1.1] at this; cases this
          refine ⟨fun _ => ⟨?_, fun k hk hkT => ?_⟩, fun h => by cases h⟩
          · cases e : A i with
            | false => rfl
            | true => have := hs.out i j e hj.1 hj.2; rw [hT] at this; cases this
          · show upd _ j (i : Int) k = s.mate k
            rw [upd_ne _ _ (fun e => by rw [e, hT] at hkT; cases hkT)]
            exact h1.2 k hk hkT
        · rename_i hb
          have h1 := hrec.2 (by simpa using hb)
          have h1 : (rec (s.mate j).toNat (s.try' j)).1.mate = s.mate := h1
          have ih := augL_shut hr r (rec (s.mate j).toNat (s.try' j)).1 hl2 (by rw [h1]; exact hs)
          rw [h1] at ih; exact ih
theorem aug_shut {A T : Nat → Bool} : ∀ (f i : Nat) (s : Mt), Shut E n A T s.mate → ((aug E n f i s).2 = true → A i = false ∧ ∀ j, j < n → T j = true → (aug E n f i s).1.mate j = s.mate j) ∧ ((aug E n f i s).2 = false → (aug E n f i s).1.mate = s.mate)
  | 0, _, _, _ => ⟨fun h => by simp [aug] at h, fun _ => rfl⟩
  | f + 1, i, s, hs => augL_shut (rec := aug E n f) (fun k s h => aug_shut f k s h) _ s (fun _ hj => mem_afterL.1 hj) hs

/-! Behind so many searches. -/
/-- Those that have none, and those to which ways from these lead. -/
def sideA (k n : Nat) (T : Nat → Bool) (s : Mt) (i : Nat) : Bool := (decide (i < k) && decide (s.nx i < 0)) || (List.range n).any fun j => T j && decide (s.mate j = i)
structure Run (E : Nat → Nat → Bool) (n k : Nat) (s : Mt) (T : Nat → Bool) : Prop where
  mat : Mat E n s
  lo : ∀ i, k ≤ i → s.nx i < 0
  shut : Shut E n (sideA k n T s) T s.mate
theorem sideA_free {k n : Nat} {T : Nat → Bool} {s : Mt} {i : Nat} (h : i < k) (h0 : s.nx i < 0) : sideA k n T s i = true := by
  unfold sideA; rw [decide_eq_true h, decide_eq_true h0]; rfl
theorem sideA_mate {k n : Nat} {T : Nat → Bool} {s : Mt} {i j : Nat} (hj : j < n) (hT : T j = true) (h : s.mate j = i) : sideA k n T s i = true := by
  unfold sideA
  rw [Bool.or_eq_true]; right
  exact List.any_eq_true.2 ⟨j, List.mem_range.2 hj, by rw [hT, decide_eq_true h]; rfl⟩
theorem sideA_cases {k n : Nat} {T : Nat → Bool} {s : Mt} {i : Nat} (h : sideA k n T s i = true) : (i < k ∧ s.nx i < 0) ∨ ∃ j, j < n ∧ T j = true ∧ s.mate j = i := by
  unfold sideA at h
  rw [Bool.or_eq_true] at h
  rcases h with h | h
  · rw [Bool.and_eq_true] at h
    exact .inl ⟨of_decide_eq_true h.1, of_decide_eq_true h.2⟩
  · obtain ⟨j, hj, h⟩ := List.any_eq_true.1 h
    rw [Bool.and_eq_true] at h
    exact .inr ⟨j, List.mem_range.1 hj, h.1, of_decide_eq_true h.2⟩
def stM (E : Nat → Nat → Bool) (n k : Nat) : Mt := ⟨fun _ => false, (runM E n k).mate, (runM E n k).nx⟩
/-- The search for the next one finds one. -/
def okM (E : Nat → Nat → Bool) (n k : Nat) : Bool := (aug E n (n + 1) k (stM E n k)).2
theorem runM_step {k : Nat} : runM E n (k + 1) = (aug E n (n + 1) k (stM E n k)).1 := rfl
theorem run_step {k : Nat} {T : Nat → Bool} (h : Run E n k (runM E n k) T) : (∃ T', Run E n (k + 1) (runM E n (k + 1)) T') ∧ (okM E n k = decide (0 ≤ (runM E n (k + 1)).nx k)) ∧ (∀ i, i < k → (0 ≤ (runM E n (k + 1)).nx i ↔ 0 ≤ (runM E n k).nx i)) := by
  have hk := h.lo k (Nat.le_refl _)
  have hsp := aug_spec (E := E) (n := n) (n + 1) k (stM E n k) (Nat.lt_succ_of_le (unt_le _ _)) ⟨h.mat.nm, h.mat.mn⟩ (fun h0 => by have h0 : 0 ≤ (runM E n k).nx k := h0; omega)
  have hsh := aug_shut (E := E) (n := n) (n + 1) k (stM E n k) h.shut
  rw [runM_step]
  unfold okM
  cases hb : (aug E n (n + 1) k (stM E n k)).2 with
  | true =>
    have hF := hsp.1 hb
    have hS := (hsh.1 hb).2
    refine ⟨⟨T, ⟨⟨hF.nm, fun j hj h0 => ?_⟩, fun i hi => ?_, ⟨fun i j hA hj he => ?_, fun j hj hT => ?_⟩⟩⟩, ?_, fun i hi => hF.same i (by omega)⟩
    · rcases hF.mn j hj h0 with q | ⟨_, q⟩
      · exact q
      · have q : (runM E n k).nx k = j := q; omega
    · have h1 := hF.same i (by omega)
      have h2 := h.lo i (by omega)
      have h1 : _ ↔ 0 ≤ (runM E n k).nx i := h1
      omega
    · rcases sideA_cases hA with ⟨h1, h2⟩ | ⟨j2, hj2, hT2, h2⟩
      · have hne : i ≠ k := fun e => by subst e; have := hF.new; omega
        have h3 : _ ↔ 0 ≤ (runM E n k).nx i := hF.same i hne
        exact h.shut.out i j (sideA_free (by omega) (by omega)) hj he
      · rw [hS j2 hj2 hT2] at h2
        exact h.shut.out i j (sideA_mate hj2 hT2 h2) hj he
    · rw [hS j hj hT]
      have h1 := h.shut.back j hj hT
      refine ⟨h1.1, sideA_mate hj hT ?_⟩
      rw [hS j hj hT]
      exact (Int.toNat_of_nonneg h1.1).symm
    · exact (decide_eq_true hF.new).symm
  | false =>
    have hL := hsp.2 hb
    have hmt : (aug E n (n + 1) k (stM E n k)).1.mate = (runM E n k).mate := hL.mate
    have hnx : (aug E n (n + 1) k (stM E n k)).1.nx = (runM E n k).nx := hL.nx
    have hmore : ∀ j, j < n → (aug E n (n + 1) k (stM E n k)).1.tried j = true → 0 ≤ (runM E n k).mate j ∧ ∀ k2, k2 < n → E ((runM E n k).mate j).toNat k2 = true → (aug E n (n + 1) k (stM E n k)).1.tried k2 = true := fun j hj ht => by
      rcases hL.more j hj ht with q | q
      · cases q
      · exact q
    refine ⟨⟨fun j => T j || (aug E n (n + 1) k (stM E n k)).1.tried j, ⟨hL.mat ⟨h.mat.nm, h.mat.mn⟩, fun i hi => by rw [hnx]; exact h.lo i (by omega), ⟨fun i j hA hj he => ?_, fun j hj hT => ?_⟩⟩⟩, ?_, fun i _ => by rw [hnx]⟩
    · rcases sideA_cases hA with ⟨h1, h2⟩ | ⟨j2, hj2, hT2, h2⟩
      · rw [hnx] at h2
        by_cases e : i = k
        · subst e
          rw [hL.all j (mem_afterL.2 ⟨hj, he⟩), Bool.or_true]
        · rw [h.shut.out i j (sideA_free (by omega) h2) hj he, Bool.true_or]
      · rw [hmt] at h2
        rcases Bool.or_eq_true _ _ ▸ hT2 with q | q
        · rw [h.shut.out i j (sideA_mate hj2 q h2) hj he, Bool.true_or]
        · have h3 := (hmore j2 hj2 q).2 j hj (by rw [h2]; simpa using he)
          rw [h3, Bool.or_true]
    · have h0 : 0 ≤ (runM E n k).mate j := by
        rcases Bool.or_eq_true _ _ ▸ hT with q | q
        · exact (h.shut.back j hj q).1
        · exact (hmore j hj q).1
      rw [hmt]
      exact ⟨h0, sideA_mate hj hT (by rw [hmt]; omega)⟩
    · rw [hnx]; exact (decide_eq_false (by omega)).symm
theorem run_all : ∀ k, ∃ T, Run E n k (runM E n k) T
  | 0 => ⟨fun _ => false, ⟨⟨fun i h => by simp [runM] at h, fun j _ h => by simp [runM] at h⟩, fun i _ => by show (-1 : Int) < 0; omega, ⟨fun i j hA _ _ => (by
      rcases sideA_cases hA with ⟨h, _⟩ | ⟨_, _, h, _⟩
      · omega
      · cases h), fun j _ h => by cases h⟩⟩⟩
  | k + 1 => by
    obtain ⟨T, h⟩ := run_all k
    exact (run_step h).1
theorem runM_mat (k : Nat) : Mat E n (runM E n k) := by obtain ⟨_, h⟩ := run_all (E := E) (n := n) k; exact h.mat
theorem runM_lo (k : Nat) {i : Nat} (hi : k ≤ i) : (runM E n k).nx i < 0 := by obtain ⟨_, h⟩ := run_all (E := E) (n := n) k; exact h.lo i hi
theorem okM_nx {k i : Nat} (hi : i < k) : okM E n i = decide (0 ≤ (runM E n k).nx i) := by
  induction k with
  | zero => omega
  | succ k ih =>
    obtain ⟨T, h⟩ := run_all (E := E) (n := n) k
    obtain ⟨_, h1, h2⟩ := run_step h
    by_cases e : i = k
    · subst e; exact h1
    · rw [ih (by omega)]
      have h3 := h2 i (by omega)
      by_cases h4 : 0 ≤ (runM E n k).nx i
      · rw [decide_eq_true h4, decide_eq_true (h3.2 h4)]
      · rw [decide_eq_false h4, decide_eq_false (fun q => h4 (h3.1 q))]
/-- How many searches find one. -/
def numM (E : Nat → Nat → Bool) (n k : Nat) : Nat := cnt k (okM E n)
theorem numM_nx {k : Nat} : numM E n k = cnt k fun i => decide (0 ≤ (runM E n k).nx i) := cnt_congr fun _ hi => okM_nx hi
/-- As many are taken on one side as on the other one. -/
theorem numM_mate {k : Nat} : numM E n k = cnt n fun j => decide (0 ≤ (runM E n k).mate j) := by
  have hm := runM_mat (E := E) (n := n) k
  rw [numM_nx]
  refine Nat.le_antisymm (cnt_inj (fun i => ((runM E n k).nx i).toNat) (fun i hi hp => ?_) (fun i j hi hj hp hq e => ?_)) (cnt_inj (fun j => ((runM E n k).mate j).toNat) (fun j hj hp => ?_) (fun i j hi hj hp hq e => ?_))
  · have h1 := hm.nm i (of_decide_eq_true hp)
    exact ⟨h1.1, decide_eq_true (by rw [h1.2.1]; omega)⟩
  · have h1 := (hm.nm i (of_decide_eq_true hp)).2.1
    have h2 := (hm.nm j (of_decide_eq_true hq)).2.1
    rw [e, h2] at h1; omega
  · have h0 := of_decide_eq_true hp
    have h1 := hm.mn j hj h0
    refine ⟨Nat.lt_of_not_le fun hle => ?_, decide_eq_true (by rw [h1]; omega)⟩
    have := runM_lo (E := E) (n := n) k hle
    omega
  · have h1 := hm.mn i hi (of_decide_eq_true hp)
    have h2 := hm.mn j hj (of_decide_eq_true hq)
    rw [e, h2] at h1; omega
/-- Pairs are no more than what covers them. -/
theorem cover_le {K : Nat} {g : Nat → Int} {CL CR : Nat → Bool} (h : ∀ i, i < K → 0 ≤ g i → (g i).toNat < n ∧ (CL i = true ∨ CR (g i).toNat = true)) (hj : ∀ i j, i < K → j < K → 0 ≤ g i → g i = g j → i = j) : (cnt K fun i => decide (0 ≤ g i)) ≤ cnt K CL + cnt n CR := by
  have h1 : (cnt K fun i => decide (0 ≤ g i)) = cnt K fun i => (decide (0 ≤ g i) && CL i) || (decide (0 ≤ g i) && !CL i) := cnt_congr fun i _ => by cases CL i <;> simp
  rw [h1, cnt_or (fun i _ => by cases CL i <;> simp)]
  refine Nat.add_le_add (cnt_mono fun i _ hp => (Bool.and_eq_true_iff.1 hp).2) (cnt_inj (fun i => (g i).toNat) (fun i hi hp => ?_) (fun i j hi hj2 hp hq e => ?_))
  · obtain ⟨a, b⟩ := Bool.and_eq_true_iff.1 hp
    obtain ⟨c, d⟩ := h i hi (of_decide_eq_true a)
    refine ⟨c, ?_⟩
    rcases d with d | d
    · rw [d] at b; cases b
    · exact d
  · have a := of_decide_eq_true (Bool.and_eq_true_iff.1 hp).1
    have b := of_decide_eq_true (Bool.and_eq_true_iff.1 hq).1
    exact hj i j hi hj2 a (by omega)
/-- No pairs are more than those that are found. -/
theorem numM_most {K : Nat} {g : Nat → Int} (h : ∀ i, i < K → 0 ≤ g i → (g i).toNat < n ∧ E i (g i).toNat = true) (hj : ∀ i j, i < K → j < K → 0 ≤ g i → g i = g j → i = j) : (cnt K fun i => decide (0 ≤ g i)) ≤ numM E n K := by
  obtain ⟨T, hR⟩ := run_all (E := E) (n := n) K
  have hm := hR.mat
  refine Nat.le_trans (cover_le (n := n) (CL := fun i => !sideA K n T (runM E n K) i) (CR := T) (fun i hi h0 => ?_) hj) ?_
  · obtain ⟨a, b⟩ := h i hi h0
    refine ⟨a, ?_⟩
    cases hA : sideA K n T (runM E n K) i with
    | false => exact .inl rfl
    | true => exact .inr (hR.shut.out i _ hA a b)
  · rw [numM_nx]
    have h1 : (cnt K fun i => decide (0 ≤ (runM E n K).nx i)) = cnt K fun i => (!sideA K n T (runM E n K) i) || (sideA K n T (runM E n K) i && decide (0 ≤ (runM E n K).nx i)) := cnt_congr fun i hi => by
      cases hA : sideA K n T (runM E n K) i with
      | true => simp
      | false =>
        by_cases h0 : 0 ≤ (runM E n K).nx i
        · simp [h0]
        · rw [sideA_free hi (by omega)] at hA; cases hA
    rw [h1, cnt_or (fun i _ hp => by cases hA : sideA K n T (runM E n K) i <;> simp_all)]
    refine Nat.add_le_add_left (cnt_inj (fun j => ((runM E n K).mate j).toNat) (fun j hj hT => ?_) (fun i j hi hj hp hq e => ?_)) _
    · obtain ⟨h0, hA⟩ := hR.shut.back j hj hT
      have h2 := hm.mn j hj h0
      refine ⟨Nat.lt_of_not_le fun hle => ?_, ?_⟩
      · have := hR.lo _ hle; omega
      · rw [hA, h2, decide_eq_true (by omega)]; rfl
    · have h1 := hm.mn i hi (hR.shut.back i hi hp).1
      have h2 := hm.mn j hj (hR.shut.back j hj hq).1
      rw [e, h2] at h1; omega
end
/-! What is in order. -/
section
variable {E : Nat → Nat → Bool} {n : Nat}
/-- As many as are not found lie apart. -/
theorem apart_all (_irr : ∀ i, E i i = false) : ∃ W : Nat → Bool, n ≤ cnt n W + numM E n n ∧ ∀ i j, i < n → j < n → W i = true → W j = true → E i j = false := by
  obtain ⟨T, hR⟩ := run_all (E := E) (n := n) n
  have hm := hR.mat
  refine ⟨fun i => sideA n n T (runM E n n) i && !T i, ?_, fun i j hi hj hi2 hj2 => ?_⟩
  · have h1 : (cnt n (sideA n n T (runM E n n))) = cnt n fun i => (sideA n n T (runM E n n) i && !T i) || (sideA n n T (runM E n n) i && T i) := cnt_congr fun i _ => by cases T i <;> simp
    rw [cnt_or (fun i _ hp => by cases hT : T i <;> simp_all)] at h1
    have h2 : (cnt n fun i => sideA n n T (runM E n n) i && T i) ≤ cnt n T := cnt_mono fun i _ hp => (Bool.and_eq_true_iff.1 hp).2
    have h3 : (cnt n fun i => decide ((runM E n n).nx i < 0)) + cnt n T ≤ cnt n (sideA n n T (runM E n n)) := by
      have h4 : (cnt n (sideA n n T (runM E n n))) = cnt n fun i => decide ((runM E n n).nx i < 0) || (sideA n n T (runM E n n) i && decide (0 ≤ (runM E n n).nx i)) := cnt_congr fun i hi => by
        by_cases h0 : (runM E n n).nx i < 0
        · rw [sideA_free hi h0, decide_eq_true h0]; rfl
        · rw [decide_eq_false h0, decide_eq_true (show 0 ≤ (runM E n n).nx i by omega)]; simp
      rw [h4, cnt_or (fun i _ hp => by have := of_decide_eq_true hp; rw [decide_eq_false (by omega), Bool.and_false])]
      refine Nat.add_le_add_left (cnt_inj (fun j => ((runM E n n).mate j).toNat) (fun j hj hT => ?_) (fun i j hi hj hp hq e => ?_)) _
      · obtain ⟨h0, hA⟩ := hR.shut.back j hj hT
        have h2 := hm.mn j hj h0
        refine ⟨Nat.lt_of_not_le fun hle => ?_, ?_⟩
        · have := hR.lo _ hle; omega
        · rw [hA, h2, decide_eq_true (by omega)]; rfl
      · have h1 := hm.mn i hi (hR.shut.back i hi hp).1
        have h2 := hm.mn j hj (hR.shut.back j hj hq).1
        rw [e, h2] at h1; omega
    have h5 := cnt_not (n := n) (p := fun i => decide (0 ≤ (runM E n n).nx i))
    rw [← numM_nx, cnt_congr (q := fun i => decide ((runM E n n).nx i < 0)) (fun i _ => by
      by_cases h0 : 0 ≤ (runM E n n).nx i
      · rw [decide_eq_true h0, decide_eq_false (by omega)]; rfl
      · rw [decide_eq_false h0, decide_eq_true (by omega)]; rfl)] at h5
    omega
  · obtain ⟨a, b⟩ := Bool.and_eq_true_iff.1 hi2
    obtain ⟨c, d⟩ := Bool.and_eq_true_iff.1 hj2
    cases he : E i j with
    | false => rfl
    | true => rw [hR.shut.out i j a hj he] at d; cases d
/-- What lies apart is not more than what is not found. -/
theorem apart_most (tr : ∀ i j k, i < n → j < n → k < n → E i j = true → E j k = true → E i k = true) {W : Nat → Bool} (hW : ∀ i j, i < n → j < n → W i = true → W j = true → E i j = false) : cnt n W + numM E n n ≤ n := by
  have hm := runM_mat (E := E) (n := n) n
  have hlo := fun i => runM_lo (E := E) (n := n) n (i := i)
  let D : Nat → Bool := fun i => (List.range n).any fun j => W j && E i j
  have hD : ∀ i j, j < n → W j = true → E i j = true → D i = true := fun i j hj h1 h2 => List.any_eq_true.2 ⟨j, List.mem_range.2 hj, by rw [h1, h2]; rfl⟩
  have hD2 : ∀ i, D i = true → ∃ j, j < n ∧ W j = true ∧ E i j = true := fun i h => by
    obtain ⟨j, hj, h⟩ := List.any_eq_true.1 h
    obtain ⟨a, b⟩ := Bool.and_eq_true_iff.1 h
    exact ⟨j, List.mem_range.1 hj, a, b⟩
  have hWD : ∀ i, i < n → W i = true → D i = false := fun i hi h => by
    cases e : D i with
    | false => rfl
    | true =>
      obtain ⟨j, hj, a, b⟩ := hD2 i e
      rw [hW i j hi hj h a] at b; cases b
  have h1 : numM E n n ≤ cnt n D + cnt n fun j => !(W j || D j) := by
    rw [numM_nx]
    refine cover_le (n := n) (fun i hi h0 => ?_) (fun i j hi hj h0 e => ?_)
    · obtain ⟨a, b, c⟩ := hm.nm i h0
      refine ⟨a, ?_⟩
      cases hw : W ((runM E n n).nx i).toNat with
      | true => exact .inl (hD i _ a hw c)
      | false =>
        cases hd : D ((runM E n n).nx i).toNat with
        | true =>
          obtain ⟨j, hj, p, q⟩ := hD2 _ hd
          exact .inl (hD i j hj p (tr i _ j hi a hj c q))
        | false => exact .inr rfl
    · have h2 := (hm.nm i h0).2.1
      have h3 := (hm.nm j (by omega)).2.1
      rw [e, h3] at h2; omega
  have h2 := cnt_not (n := n) (p := fun j => W j || D j)
  rw [cnt_or hWD] at h2
  omega
end
end Go.Proofs.YteimjjpigohnhaaGreat
/- Chains and widest times: as many of the ones as of the others, and no fewer. -/
namespace Go.Proofs.YteimjjpigohnhaaGreat
open Go.Sl
section
variable {E : Nat → Nat → Bool} {n : Nat}
/-- What a reach adds. -/
structure Rsp (E : Nat → Nat → Bool) (n : Nat) (T : Nat → Bool) (mate : Nat → Int) (ex : List Nat) (s s' : Rs) : Prop where
  ok : s.ok = true → s'.ok = true
  here : ∀ j, s.here j = true → s'.here j = true
  there : ∀ j, s.there j = true → s'.there j = true
  out : ∀ i, s'.here i = true → s.here i = true ∨ ∀ j, j < n → E i j = true → s'.there j = true
  back : ∀ j, j < n → s'.there j = true → s.there j = true ∨ s'.here (mate j).toNat = true
  src : ∀ i, s'.here i = true → s.here i = true ∨ i ∈ ex ∨ ∃ j, j < n ∧ s'.there j = true ∧ (mate j).toNat = i
  sub : ∀ j, s'.there j = true → s.there j = true ∨ T j = true
theorem Rsp.refl {T : Nat → Bool} {mate : Nat → Int} {ex : List Nat} {s : Rs} : Rsp E n T mate ex s s :=
  ⟨id, fun _ h => h, fun _ h => h, fun _ h => .inl h, fun _ _ h => .inl h, fun _ h => .inl h, fun _ h => .inl h⟩
theorem Rsp.trans {T : Nat → Bool} {mate : Nat → Int} {e1 e2 : List Nat} {s s1 s' : Rs} (h1 : Rsp E n T mate e1 s s1) (h2 : Rsp E n T mate e2 s1 s') : Rsp E n T mate (e1 ++ e2) s s' where
  ok := fun h => h2.ok (h1.ok h)
  here := fun j h => h2.here j (h1.here j h)
  there := fun j h => h2.there j (h1.there j h)
  out := fun i h => by
    rcases h2.out i h with q | q
    · rcases h1.out i q with r | r
      · exact .inl r
      · exact .inr fun j hj he => h2.there j (r j hj he)
    · exact .inr q
  back := fun j hj h => by
    rcases h2.back j hj h with q | q
    · rcases h1.back j hj q with r | r
      · exact .inl r
      · exact .inr (h2.here _ r)
    · exact .inr q
  src := fun i h => by
    rcases h2.src i h with q | q | q
    · rcases h1.src i q with r | r | ⟨j, hj, r1, r2⟩
      · exact .inl r
      · exact .inr (.inl (List.mem_append_left _ r))
      · exact .inr (.inr ⟨j, hj, h2.there j r1, r2⟩)
    · exact .inr (.inl (List.mem_append_right _ q))
    · exact .inr (.inr q)
  sub := fun j h => by
    rcases h2.sub j h with q | q
    · exact h1.sub j q
    · exact .inr q
theorem rchL_spec {A T : Nat → Bool} {mate : Nat → Int} {rec : Nat → Rs → Rs} {f : Nat} (hT : ∀ j, j < n → T j = true → 0 ≤ mate j ∧ A (mate j).toNat = true) (hr : ∀ i s, unt n s.here < f → A i = true → Rsp E n T mate [i] s (rec i s) ∧ (rec i s).here i = true) :
    ∀ (l : List Nat) (s : Rs), (∀ j ∈ l, j < n ∧ T j = true) → unt n s.here < f → Rsp E n T mate [] s (rchL rec mate l s) ∧ ∀ j ∈ l, (rchL rec mate l s).there j = true
  | [], s, _, _ => ⟨Rsp.refl, fun _ h => by simp at h⟩
  | j :: r, s, hl, hf => by
    have hj := hl j List.mem_cons_self
    have hl2 : ∀ k ∈ r, k < n ∧ T k = true := fun k hk => hl k (List.mem_cons_of_mem _ hk)
    unfold rchL
    split
    · rename_i h
      have ih := rchL_spec hT hr r s hl2 hf
      exact ⟨ih.1, fun k hk => by
        rcases List.mem_cons.1 hk with e | hk
        · subst e; exact ih.1.there _ h
        · exact ih.2 k hk⟩
    · have hm := hT j hj.1 hj.2
      rw [if_neg (by omega)]
      have h1 := hr (mate j).toNat ⟨s.here, upd s.there j true, s.ok⟩ hf hm.2
      have hjt : (rec (mate j).toNat ⟨s.here, upd s.there j true, s.ok⟩).there j = true := h1.1.there j (upd_same _ _ _)
      have hs : Rsp E n T mate [] s (rec (mate j).toNat ⟨s.here, upd s.there j true, s.ok⟩) :=
        { ok := h1.1.ok
          here := h1.1.here
          there := fun k hk => h1.1.there k (by show upd s.there j true k = true; unfold upd; split <;> simp [*])
          out := h1.1.out
          back := fun k hk h => by
            rcases h1.1.back k hk h with q | q
            · by_cases e : k = j
              · subst e; exact .inr h1.2
              · have q : upd s.there j true k = true := q
                rw [upd_ne _ _ e] at q; exact .inl q
            · exact .inr q
          src := fun i h => by
            rcases h1.1.src i h with q | q | q
            · exact .inl q
            · rw [List.mem_singleton.1 q]
              exact .inr (.inr ⟨j, hj.1, hjt, rfl⟩)
            · exact .inr (.inr q)
          sub := fun k h => by
            rcases h1.1.sub k h with q | q
            · by_cases e : k = j
              · subst e; exact .inr hj.2
              · have q : upd s.there j true k = true := q
                rw [upd_ne _ _ e] at q; exact .inl q
            · exact .inr q }
      have ih := rchL_spec hT hr r _ hl2 (Nat.lt_of_le_of_lt (unt_mono fun k _ hk => h1.1.here k hk) hf)
      exact ⟨hs.trans ih.1, fun k hk => by
        rcases List.mem_cons.1 hk with e | hk
        · subst e; exact ih.1.there _ hjt
        · exact ih.2 k hk⟩
theorem rch_spec {A T : Nat → Bool} {mate : Nat → Int} (hA : ∀ i, A i = true → i < n) (hS : Shut E n A T mate) : ∀ (f i : Nat) (s : Rs), unt n s.here < f → A i = true → Rsp E n T mate [i] s (rch E n mate f i s) ∧ (rch E n mate f i s).here i = true
  | 0, _, _, h, _ => by omega
  | f + 1, i, s, hf, hi => by
    unfold rch
    split
    · rename_i h
      exact ⟨Rsp.refl, h⟩
    · rename_i h
      have hh : s.here i = false := by simpa using h
      have h1 := rchL_spec (E := E) (n := n) (rec := rch E n mate f) (f := f) hS.back (fun k s hk ha => rch_spec hA hS f k s hk ha) (afterL E n i) ⟨upd s.here i true, s.there, s.ok⟩ (fun j hj => by
        have := mem_afterL.1 hj
        exact ⟨this.1, hS.out i j hi this.1 this.2⟩) (by have := unt_upd (hA i hi) hh; show unt n (upd s.here i true) < f; omega)
      refine ⟨⟨h1.1.ok, fun j hj => h1.1.here j (by show upd s.here i true j = true; unfold upd; split <;> simp [*]), h1.1.there, fun k hk => ?_, h1.1.back, fun k hk => ?_, h1.1.sub⟩, h1.1.here i (upd_same _ _ _)⟩
      · by_cases e : k = i
        · subst e
          exact .inr fun j hj he => h1.2 j (mem_afterL.2 ⟨hj, he⟩)
        · rcases h1.1.out k hk with q | q
          · have q : upd s.here i true k = true := q
            rw [upd_ne _ _ e] at q; exact .inl q
          · exact .inr q
      · by_cases e : k = i
        · subst e; exact .inr (.inl List.mem_cons_self)
        · rcases h1.1.src k hk with q | q | q
          · have q : upd s.here i true k = true := q
            rw [upd_ne _ _ e] at q; exact .inl q
          · simp at q
          · exact .inr (.inr q)
/-- What is reached in all. -/
structure Rall (E : Nat → Nat → Bool) (n k : Nat) (T : Nat → Bool) (m : Mt) (r : Rs) : Prop where
  ok : r.ok = true
  free : ∀ i, i < k → m.nx i < 0 → r.here i = true
  out : ∀ i j, r.here i = true → j < n → E i j = true → r.there j = true
  back : ∀ j, j < n → r.there j = true → r.here (m.mate j).toNat = true
  src : ∀ i, r.here i = true → m.nx i < 0 ∨ ∃ j, j < n ∧ r.there j = true ∧ (m.mate j).toNat = i
  sub : ∀ j, r.there j = true → T j = true
theorem sideA_lt {T : Nat → Bool} (hR : Run E n n (runM E n n) T) {i : Nat} (h : sideA n n T (runM E n n) i = true) : i < n := by
  rcases sideA_cases h with ⟨h, _⟩ | ⟨j, hj, hT, h⟩
  · exact h
  · have h2 := hR.mat.mn j hj (hR.shut.back j hj hT).1
    refine Nat.lt_of_not_le fun hle => ?_
    have h3 := hR.lo i hle
    rw [show ((runM E n n).mate j).toNat = i by omega] at h2
    omega
theorem rchN_spec {T : Nat → Bool} (hR : Run E n n (runM E n n) T) : ∀ k, k ≤ n → Rall E n k T (runM E n n) (rchN E n (runM E n n) k)
  | 0, _ => ⟨rfl, fun i h => by omega, fun _ _ h => (by cases h), fun _ _ h => (by cases h), fun _ h => (by cases h), fun _ h => (by cases h)⟩
  | k + 1, hk => by
    have ih := rchN_spec hR k (by omega)
    unfold rchN
    split
    · rename_i h0
      obtain ⟨h1, h2⟩ := rch_spec (E := E) (n := n) (fun i hi => sideA_lt hR hi) hR.shut (n + 1) k (rchN E n (runM E n n) k) (Nat.lt_succ_of_le (unt_le _ _)) (sideA_free (by omega) h0)
      refine ⟨h1.ok ih.ok, fun i hi hn => ?_, fun i j hi hj he => ?_, fun j hj h => ?_, fun i h => ?_, fun j h => ?_⟩
      · by_cases e : i = k
        · subst e; exact h2
        · exact h1.here i (ih.free i (by omega) hn)
      · rcases h1.out i hi with q | q
        · exact h1.there j (ih.out i j q hj he)
        · exact q j hj he
      · rcases h1.back j hj h with q | q
        · exact h1.here _ (ih.back j hj q)
        · exact q
      · rcases h1.src i h with q | q | q
        · rcases ih.src i q with r | ⟨j, hj, r1, r2⟩
          · exact .inl r
          · exact .inr ⟨j, hj, h1.there j r1, r2⟩
        · rw [List.mem_singleton.1 q]; exact .inl h0
        · exact .inr q
      · rcases h1.sub j h with q | q
        · exact ih.sub j q
        · exact q
    · rename_i h0
      exact ⟨ih.ok, fun i hi hn => by
        by_cases e : i = k
        · subst e; exact absurd hn h0
        · exact ih.free i (by omega) hn, ih.out, ih.back, ih.src, ih.sub⟩
theorem cnt_neg {f : Nat → Int} : (cnt n fun i => decide (f i < 0)) + (cnt n fun i => decide (0 ≤ f i)) = n := by
  have := cnt_not (n := n) (p := fun i => decide (0 ≤ f i))
  rw [cnt_congr (q := fun i => decide (f i < 0)) (fun i _ => by
    by_cases h0 : f i < 0
    · rw [decide_eq_true h0, decide_eq_false (by omega)]; rfl
    · rw [decide_eq_false h0, decide_eq_true (by omega)]; rfl)] at this
  exact this
/-- As many are wide as are not found. -/
theorem wide_cnt (tr : ∀ i j k, i < n → j < n → k < n → E i j = true → E j k = true → E i k = true) {r : Rs} {T : Nat → Bool} (hR : Run E n n (runM E n n) T) (h : Rall E n n T (runM E n n) r) : (cnt n fun i => r.here i && !r.there i) + numM E n n = n := by
  have hm := hR.mat
  have hmate : ∀ j, j < n → r.there j = true → 0 ≤ (runM E n n).mate j := fun j hj ht => (hR.shut.back j hj (h.sub j ht)).1
  have hmn : ∀ j, j < n → r.there j = true → ((runM E n n).mate j).toNat < n := fun j hj ht => sideA_lt hR (hR.shut.back j hj (h.sub j ht)).2
  have hth : ∀ j, j < n → r.there j = true → r.here j = true := fun j hj ht => by
    by_cases h0 : (runM E n n).nx j < 0
    · exact h.free j hj h0
    · have h0 : 0 ≤ (runM E n n).nx j := by omega
      obtain ⟨a, b, c⟩ := hm.nm j h0
      have h1 := hm.mn j hj (hmate j hj ht)
      have h2 := hm.nm ((runM E n n).mate j).toNat (by rw [h1]; omega)
      rw [h1, show ((j : Nat) : Int).toNat = j by omega] at h2
      have h3 := tr _ j _ (hmn j hj ht) hj a h2.2.2 c
      have h4 := h.out _ _ (h.back j hj ht) a h3
      have h5 := h.back _ a h4
      rw [b] at h5
      simpa using h5
  have e1 : cnt n r.here = (cnt n fun i => r.here i && !r.there i) + cnt n r.there := by
    rw [← cnt_or (fun i _ hp => by cases e : r.there i <;> simp_all)]
    exact cnt_congr fun i hi => by
      cases e : r.there i with
      | true => rw [hth i hi e]; rfl
      | false => simp
  have e2 : cnt n r.here = (cnt n fun i => decide ((runM E n n).nx i < 0)) + cnt n fun i => r.here i && decide (0 ≤ (runM E n n).nx i) := by
    rw [← cnt_or (fun i _ hp => by have := of_decide_eq_true hp; rw [decide_eq_false (show ¬ 0 ≤ (runM E n n).nx i by omega), Bool.and_false])]
    exact cnt_congr fun i hi => by
      by_cases h0 : (runM E n n).nx i < 0
      · rw [h.free i hi h0, decide_eq_true h0]; rfl
      · rw [decide_eq_false h0, decide_eq_true (show 0 ≤ (runM E n n).nx i by omega)]; simp
  have e3 : (cnt n fun i => r.here i && decide (0 ≤ (runM E n n).nx i)) = cnt n r.there := by
    refine Nat.le_antisymm (cnt_inj (fun i => ((runM E n n).nx i).toNat) (fun i hi hp => ?_) (fun i j hi hj hp hq e => ?_)) (cnt_inj (fun j => ((runM E n n).mate j).toNat) (fun j hj hp => ?_) (fun i j hi hj hp hq e => ?_))
    · obtain ⟨a, b⟩ := Bool.and_eq_true_iff.1 hp
      have b := of_decide_eq_true b
      refine ⟨(hm.nm i b).1, ?_⟩
      rcases h.src i a with q | ⟨j, hj, q1, q2⟩
      · omega
      · have h1 := hm.mn j hj (hmate j hj q1)
        rw [q2] at h1
        rw [h1]; simpa using q1
    · have h1 := (hm.nm i (of_decide_eq_true (Bool.and_eq_true_iff.1 hp).2)).2.1
      have h2 := (hm.nm j (of_decide_eq_true (Bool.and_eq_true_iff.1 hq).2)).2.1
      rw [e, h2] at h1; omega
    · have h1 := hm.mn j hj (hmate j hj hp)
      refine ⟨hmn j hj hp, ?_⟩
      rw [h.back j hj hp, h1, decide_eq_true (show (0 : Int) ≤ ((j : Nat) : Int) by omega)]; rfl
    · have h1 := hm.mn i hi (hmate i hi hp)
      have h2 := hm.mn j hj (hmate j hj hq)
      rw [e, h2] at h1; omega
  have e4 := cnt_neg (n := n) (f := (runM E n n).nx)
  rw [← numM_nx] at e4
  omega
/-! Chains -/
theorem chain_next {nx : Nat → Int} (up : ∀ i, i < n → 0 ≤ nx i → (i : Int) < nx i ∧ nx i < n) {y : Nat} (hy : 0 ≤ nx y) : ∀ (f : Nat) (i : Int), (0 ≤ i → n - i.toNat ≤ f) → i < n → y ∈ chainI nx f i → (nx y).toNat ∈ chainI nx f i
  | 0, _, _, _, h => by simp [chainI] at h
  | f + 1, i, hf, hi, h => by
    unfold chainI at h ⊢
    split at h
    · simp at h
    · rename_i h0
      rw [if_neg h0]
      rcases List.mem_cons.1 h with e | h
      · subst e
        have h1 := up i.toNat (by omega) hy
        refine List.mem_cons_of_mem _ ?_
        have h2 : 0 < f := by have := hf (by omega); omega
        obtain ⟨g, rfl⟩ : ∃ g, f = g + 1 := ⟨f - 1, by omega⟩
        unfold chainI
        rw [if_neg (by omega)]
        exact List.mem_cons_self
      · refine List.mem_cons_of_mem _ (chain_next up hy f _ (fun h1 => ?_) ?_ h)
        · have h2 := up i.toNat (by omega) h1
          have := hf (by omega)
          omega
        · by_cases h1 : 0 ≤ nx i.toNat
          · exact (up i.toNat (by omega) h1).2
          · omega
theorem chain_prev {nx : Nat → Int} {x : Nat} : ∀ (f : Nat) (i : Int), x ∈ chainI nx f i → (x : Int) = i ∨ ∃ y, y ∈ chainI nx f i ∧ nx y = x
  | 0, _, h => by simp [chainI] at h
  | f + 1, i, h => by
    unfold chainI at h ⊢
    split at h
    · simp at h
    · rename_i h0
      rw [if_neg h0]
      rcases List.mem_cons.1 h with e | h
      · left; omega
      · rcases chain_prev f _ h with q | ⟨y, q1, q2⟩
        · exact .inr ⟨i.toNat, List.mem_cons_self, q.symm⟩
        · exact .inr ⟨y, List.mem_cons_of_mem _ q1, q2⟩
theorem chain_up {nx : Nat → Int} (up : ∀ i, i < n → 0 ≤ nx i → (i : Int) < nx i ∧ nx i < n) : ∀ (f : Nat) (i : Int), i < n → (chainI nx f i).Pairwise (fun a b => a < b) ∧ (∀ x ∈ chainI nx f i, i ≤ x ∧ x < n)
  | 0, _, _ => ⟨List.Pairwise.nil, fun _ h => by simp [chainI] at h⟩
  | f + 1, i, hi => by
    unfold chainI
    split
    · exact ⟨List.Pairwise.nil, fun _ h => by simp at h⟩
    · rename_i h0
      by_cases h1 : 0 ≤ nx i.toNat
      · have h2 := up i.toNat (by omega) h1
        have ih := chain_up up f (nx i.toNat) h2.2
        refine ⟨List.pairwise_cons.2 ⟨fun b hb => by have := (ih.2 b hb).1; omega, ih.1⟩, fun x hx => ?_⟩
        rcases List.mem_cons.1 hx with e | hx
        · omega
        · have := ih.2 x hx; omega
      · rw [chainI_neg (by omega)]
        exact ⟨List.pairwise_singleton _ _, fun x hx => by rw [List.mem_singleton.1 hx]; omega⟩
theorem chain_step {nx : Nat → Int} : ∀ (f : Nat) (i : Int) (k : Nat) (h : k + 1 < (chainI nx f i).length), nx ((chainI nx f i)[k]'(by omega)) = ((chainI nx f i)[k + 1] : Nat)
  | 0, _, _, h => by simp [chainI] at h
  | f + 1, i, k, h => by
    by_cases h0 : i < 0
    · rw [chainI_neg h0] at h; simp at h
    · have e : chainI nx (f + 1) i = i.toNat :: chainI nx f (nx i.toNat) := by
        conv => lhs; unfold chainI
        rw [if_neg h0]
      simp only [e] at h ⊢
      cases k with
      | zero =>
        simp only [List.getElem_cons_zero, List.getElem_cons_succ]
        cases f with
        | zero => simp [chainI] at h
        | succ f =>
          by_cases h1 : nx i.toNat < 0
          · rw [chainI_neg h1] at h; simp at h
          · have e2 : chainI nx (f + 1) (nx i.toNat) = (nx i.toNat).toNat :: chainI nx f (nx (nx i.toNat).toNat) := by
              conv => lhs; unfold chainI
              rw [if_neg h1]
            simp only [e2, List.getElem_cons_zero]
            omega
      | succ k =>
        simp only [List.getElem_cons_succ]
        exact chain_step f _ k (by simpa using h)
def starts (n : Nat) (m : Mt) : List Nat := (List.range n).filter fun i => decide (m.mate i < 0)
/-- All are in the chains, each once. -/
theorem chains_perm {m : Mt} (hm : Mat E n m) (up : ∀ i, i < n → 0 ≤ m.nx i → (i : Int) < m.nx i ∧ m.nx i < n) (hlo : ∀ i, n ≤ i → m.nx i < 0) : ((starts n m).flatMap fun i : Nat => chainI m.nx n (i : Int)).Perm (List.range n) := by
  have hst : ∀ i, i ∈ starts n m ↔ i < n ∧ m.mate i < 0 := fun i => by simp [starts]
  refine (List.perm_ext_iff_of_nodup ?_ List.nodup_range).2 fun x => ?_
  · refine List.pairwise_flatMap.2 ⟨fun i hi => ?_, ?_⟩
    · exact (chain_up up n (i : Int) (by have := ((hst i).1 hi).1; omega)).1.imp (fun h => by omega)
    · have key : ∀ x a b : Nat, m.mate a < 0 → m.mate b < 0 → x ∈ chainI m.nx n (a : Int) → x ∈ chainI m.nx n (b : Int) → a < n → b < n → a = b := by
        intro x
        induction x using Nat.strongRecOn with
        | _ x ih =>
          intro a b ha hb hxa hxb han hbn
          rcases chain_prev n _ hxa with q | ⟨y, q1, q2⟩ <;> rcases chain_prev n _ hxb with r | ⟨z, r1, r2⟩
          · omega
          · have h1 := (hm.nm z (by omega)).2.1
            rw [r2, show ((x : Nat) : Int).toNat = x by omega] at h1
            rw [show x = a by omega] at h1; omega
          · have h1 := (hm.nm y (by omega)).2.1
            rw [q2, show ((x : Nat) : Int).toNat = x by omega] at h1
            rw [show x = b by omega] at h1; omega
          · have h1 := (hm.nm y (by omega)).2.1
            have h2 := (hm.nm z (by omega)).2.1
            rw [q2, show ((x : Nat) : Int).toNat = x by omega] at h1
            rw [r2, show ((x : Nat) : Int).toNat = x by omega] at h2
            have e : y = z := by omega
            subst e
            have h3 := ((chain_up up n (a : Int) (by omega)).2 y q1).2
            have h4 := up y h3 (by omega)
            exact ih y (by omega) a b ha hb q1 r1 han hbn
      have hnd : (starts n m).Nodup := List.Pairwise.filter _ List.nodup_range
      refine List.Pairwise.imp_of_mem (fun {a b} ha hb hab x hx y hy e => ?_) hnd
      subst e
      have h1 := (hst a).1 ha
      have h2 := (hst b).1 hb
      exact hab (key x a b h1.2 h2.2 hx hy h1.1 h2.1)
  · rw [List.mem_range]
    constructor
    · intro h
      obtain ⟨i, hi, hx⟩ := List.mem_flatMap.1 h
      exact ((chain_up up n (i : Int) (by have := ((hst i).1 hi).1; omega)).2 x hx).2
    · induction x using Nat.strongRecOn with
      | _ x ih =>
        intro hx
        by_cases h0 : m.mate x < 0
        · refine List.mem_flatMap.2 ⟨x, (hst x).2 ⟨hx, h0⟩, ?_⟩
          obtain ⟨k, rfl⟩ : ∃ k, n = k + 1 := ⟨n - 1, by omega⟩
          unfold chainI
          rw [if_neg (by omega)]
          simp
        · have h1 := hm.mn x hx (by omega)
          have hyn : (m.mate x).toNat < n := by
            refine Nat.lt_of_not_le fun hle => ?_
            have := hlo _ hle; omega
          have h2 := up (m.mate x).toNat hyn (by omega)
          have h3 := ih (m.mate x).toNat (by omega) hyn
          obtain ⟨i, hi, hy⟩ := List.mem_flatMap.1 h3
          refine List.mem_flatMap.2 ⟨i, hi, ?_⟩
          have h4 := chain_next up (y := (m.mate x).toNat) (by omega) n (i : Int) (fun _ => by omega) (by have := ((hst i).1 hi).1; omega) hy
          rw [h1] at h4; simpa using h4
end
/-! Times -/
section
variable {w : Nat} {l : List Tm}
theorem EP_tr (ho : Ord l) (hw : ∀ x ∈ l, x.length = w) (i j k : Nat) (hi : i < l.length) (hj : j < l.length) (hk : k < l.length) (h1 : EP l i j = true) (h2 : EP l j k = true) : EP l i k = true := by
  have h3 := EP_lt ho hw hi hj h1
  have h4 := EP_lt ho hw hj hk h2
  unfold EP at h1 h2 ⊢
  rw [Bool.and_eq_true] at h1 h2 ⊢
  refine ⟨decide_eq_true (by omega), ?_⟩
  have gl : ∀ i, i < l.length → (l.getD i []).length = w := fun i hi => by
    rw [List.getD_eq_getElem?_getD, List.getElem?_eq_getElem hi]; exact hw _ (List.getElem_mem hi)
  exact tle_trans ((gl i hi).trans (gl j hj).symm) ((gl j hj).trans (gl k hk).symm) h1.2 h2.2
theorem link_up (ho : Ord l) (hw : ∀ x ∈ l, x.length = w) (i : Nat) (hi : i < l.length) (h0 : 0 ≤ (linkM l).nx i) : (i : Int) < (linkM l).nx i ∧ (linkM l).nx i < l.length :=
  ⟨nx_lt ho hw hi h0, ((runM_ok (E := EP l) (n := l.length) (Nat.le_refl _)).nx i hi).2⟩
/-- No exchange is left. -/
theorem rchM_safe : (rchM l).ok = true := by
  obtain ⟨T, hR⟩ := run_all (E := EP l) (n := l.length) l.length
  exact (rchN_spec hR l.length (Nat.le_refl _)).ok
theorem widT_len (ho : Ord l) (hw : ∀ x ∈ l, x.length = w) : (widT l).length + numM (EP l) l.length l.length = l.length := by
  obtain ⟨T, hR⟩ := run_all (E := EP l) (n := l.length) l.length
  have h := wide_cnt (EP_tr ho hw) hR (rchN_spec hR l.length (Nat.le_refl _))
  unfold widT widK
  rw [List.length_map, cnt_len]
  exact h
theorem chainsN_length : (chainsN l (linkM l) l.length).length + numM (EP l) l.length l.length = l.length := by
  unfold chainsN
  rw [List.length_map, cnt_len, numM_mate]
  exact cnt_neg
theorem chainsN_flat (ho : Ord l) (hw : ∀ x ∈ l, x.length = w) : ((chainsN l (linkM l) l.length).flatten).Perm l := by
  have hp := chains_perm (E := EP l) (runM_mat l.length) (link_up ho hw) (fun i hi => runM_lo l.length hi)
  have e : (chainsN l (linkM l) l.length).flatten = ((starts l.length (linkM l)).flatMap fun i : Nat => chainI (linkM l).nx l.length (i : Int)).map fun j => l.getD j [] := by
    unfold chainsN chainT starts
    rw [List.map_flatMap, List.flatMap_def]
  have e2 : (List.range l.length).map (fun j => l.getD j []) = l := by
    apply List.ext_getElem
    · simp
    · intro i h1 h2
      simp [List.getD_eq_getElem?_getD, List.getElem?_eq_getElem h2]
  rw [e]
  have h3 := hp.map fun j => l.getD j []
  rw [e2] at h3
  exact h3
theorem wid_mem {t : Tm} (h : t ∈ widT l) : t ∈ l := by
  unfold widT widK at h
  obtain ⟨i, hi, rfl⟩ := List.mem_map.1 h
  have hi := List.mem_range.1 (List.mem_filter.1 hi).1
  rw [List.getD_eq_getElem?_getD, List.getElem?_eq_getElem hi]
  exact List.getElem_mem hi
theorem widT_ord (ho : Ord l) : Ord (widT l) := by
  have e2 : (List.range l.length).map (fun j => l.getD j []) = l := by
    apply List.ext_getElem
    · simp
    · intro i h1 h2
      simp [List.getD_eq_getElem?_getD, List.getElem?_eq_getElem h2]
  have h1 : (widT l).Sublist l := by
    have h2 : (widT l).Sublist ((List.range l.length).map fun j => l.getD j []) := List.filter_sublist.map _
    rw [e2] at h2; exact h2
  exact ho.sublist h1
theorem widT_apart {t u : Tm} (ht : t ∈ widT l) (hu : u ∈ widT l) (hne : t ≠ u) : tle t u = false := by
  obtain ⟨T, hR⟩ := run_all (E := EP l) (n := l.length) l.length
  have h := rchN_spec hR l.length (Nat.le_refl _)
  unfold widT widK at ht hu
  obtain ⟨i, hi, rfl⟩ := List.mem_map.1 ht
  obtain ⟨j, hj, rfl⟩ := List.mem_map.1 hu
  obtain ⟨hi1, hi2⟩ := List.mem_filter.1 hi
  obtain ⟨hj1, hj2⟩ := List.mem_filter.1 hj
  obtain ⟨a, _⟩ := Bool.and_eq_true_iff.1 hi2
  obtain ⟨_, d⟩ := Bool.and_eq_true_iff.1 hj2
  cases he : tle (l.getD i []) (l.getD j []) with
  | false => rfl
  | true =>
    have hE : EP l i j = true := by
      unfold EP
      have hij : i ≠ j := fun e => hne (by rw [e])
      rw [he, decide_eq_true hij]; rfl
    have := h.out i j a (List.mem_range.1 hj1) hE
    have d : (!(rchN (EP l) l.length (runM (EP l) l.length l.length) l.length).there j) = true := d
    rw [this] at d; cases d
theorem widT_firsts (ho : Ord l) (hw : ∀ x ∈ l, x.length = w) : firstsT (widT l) = widT l := by
  have hww : ∀ x ∈ widT l, x.length = w := fun x hx => hw x (wid_mem hx)
  have e : sortT (widT l) = widT l := ord_ext (ord_sortT hww) (widT_ord ho) fun x => mem_sortT
  unfold firstsT outT
  rw [e]
  refine List.filter_eq_self.2 fun t ht => List.all_eq_true.2 fun o hot => ?_
  by_cases e2 : o = t
  · rw [decide_eq_true e2]; rfl
  · rw [widT_apart hot ht e2]; simp
/-- A chain rises. -/
theorem chainT_up {i k : Nat} (h : k + 1 < (chainT l (linkM l) i).length) (hi : i < l.length) (ho : Ord l) (hw : ∀ x ∈ l, x.length = w) : tle ((chainT l (linkM l) i)[k]'(by omega)) (chainT l (linkM l) i)[k + 1] = true ∧ (chainT l (linkM l) i)[k]'(by omega) ≠ (chainT l (linkM l) i)[k + 1] := by
  have hlen : (chainT l (linkM l) i).length = (chainI (linkM l).nx l.length (i : Int)).length := by unfold chainT; rw [List.length_map]
  have h1 := chain_step (nx := (linkM l).nx) l.length (i : Int) k (by omega)
  have h2 := chain_up (link_up ho hw) l.length (i : Int) (by omega)
  have hk := (h2.2 _ (List.getElem_mem (show k < (chainI (linkM l).nx l.length (i : Int)).length by omega))).2
  have hk1 := (h2.2 _ (List.getElem_mem (show k + 1 < (chainI (linkM l).nx l.length (i : Int)).length by omega))).2
  have ea : (chainT l (linkM l) i)[k]'(by omega) = l.getD ((chainI (linkM l).nx l.length (i : Int))[k]'(by omega)) [] := List.getElem_map _
  have eb : (chainT l (linkM l) i)[k + 1] = l.getD ((chainI (linkM l).nx l.length (i : Int))[k + 1]'(by omega)) [] := List.getElem_map _
  have h3 := runM_nxe (E := EP l) (n := l.length) l.length _ hk (by
    show 0 ≤ (linkM l).nx _
    rw [h1]; omega)
  have h3 : EP l _ ((linkM l).nx ((chainI (linkM l).nx l.length (i : Int))[k]'(by omega))).toNat = true := h3
  rw [h1, Int.toNat_natCast] at h3
  have h4 := EP_lt ho hw hk hk1 h3
  unfold EP at h3
  rw [Bool.and_eq_true] at h3
  rw [ea, eb]
  refine ⟨h3.2, fun e => ?_⟩
  have h5 := List.pairwise_iff_getElem.1 ho _ _ hk hk1 h4
  rw [List.getD_eq_getElem?_getD, List.getD_eq_getElem?_getD, List.getElem?_eq_getElem hk, List.getElem?_eq_getElem hk1] at e
  simp only [Option.getD_some] at e
  rw [e, lxl_irr] at h5; cases h5
theorem chainT_ne {i : Nat} (hi : i < l.length) : 0 < (chainT l (linkM l) i).length := by
  unfold chainT
  rw [List.length_map]
  obtain ⟨k, hk⟩ : ∃ k, l.length = k + 1 := ⟨l.length - 1, by omega⟩
  rw [hk]
  unfold chainI
  rw [if_neg (by omega)]; simp
end
end Go.Proofs.YteimjjpigohnhaaGreat
/- Pairs, by the specification. -/
namespace Go.Proofs.YteimjjpigohnhaaGreat
open Go.Sl
variable {S : Nat → Prop} {w0 : World} {η : Heap}
/-- Those behind one from a place on. -/
def aftK (E : Nat → Nat → Bool) (n i j : Nat) : List Nat := (List.range' j (n - j)).filter fun k => E i k
theorem aftK_step {E : Nat → Nat → Bool} {n i j : Nat} (h : j < n) : aftK E n i j = if E i j = true then j :: aftK E n i (j + 1) else aftK E n i (j + 1) := by
 unfold aftK
 rw [show n - j = (n - (j + 1)) + 1 by omega, List.range'_succ, List.filter_cons]
theorem aftK_end {E : Nat → Nat → Bool} {n i j : Nat} (h : n ≤ j) : aftK E n i j = [] := by
 unfold aftK; rw [show n - j = 0 by omega]; rfl
theorem afterL_aftK {E : Nat → Nat → Bool} {n i : Nat} (hup : ∀ j, j < n → E i j = true → i < j) (hi : i < n) : afterL E n i = aftK E n i (i + 1) := by
 have key : ∀ k, k ≤ i + 1 → aftK E n i k = aftK E n i (i + 1) := by
  intro k hk
  obtain ⟨d, hd⟩ : ∃ d, i + 1 = k + d := ⟨i + 1 - k, by omega⟩
  induction d generalizing k with
  | zero => rw [hd]; rfl
  | succ d ih =>
   rw [aftK_step (by omega), if_neg (fun h => by have := hup k (by omega) h; omega)]
   exact ih (k + 1) (by omega) (by omega)
 rw [← key 0 (by omega)]
 unfold afterL aftK
 rw [List.range_eq_range', Nat.sub_zero]
set_option maxHeartbeats 4000000 in
theorem paired_ref {a : Option Addr} {qs : List HL} {c w nb bb tr cn cb : Nat} (hx : LL S w0 [] a qs) (hl : qs.length < 2 ^ 63) (hw : ∀ p ∈ qs, p.2.1.length = w) (hw4 : w ≤ 4) (hup : ∀ i j, i < qs.length → j < qs.length → EP (tx qs) i j = true → i < j) : ∀ (fu : Nat) {i : Nat} {s : Mt} {η : Heap} {cN cB : Array Value}, i < qs.length → MtOk qs.length s → unt qs.length s.tried < fu → OIs nb cn qs.length s.nx cN → OIs bb cb qs.length s.mate cB →
  Rt Tryz.prog 106 [.slice a qs.length c, .agg #[.slice (some ⟨nb, 0, none⟩) qs.length cn, .slice (some ⟨bb, 0, none⟩) qs.length cb], .int .i64 (i : Int), .slice (some ⟨tr, 0, none⟩) qs.length qs.length].toArray S w0 (cseg nb cN :: cseg bb cB :: bseg tr qs.length s.tried :: η) (fun v η' => v = .bool (aug (EP (tx qs)) qs.length fu i s).2 ∧ ∃ cN' cB', OIs nb cn qs.length (aug (EP (tx qs)) qs.length fu i s).1.nx cN' ∧ OIs bb cb qs.length (aug (EP (tx qs)) qs.length fu i s).1.mate cB' ∧ η' = cseg nb cN' :: cseg bb cB' :: bseg tr qs.length (aug (EP (tx qs)) qs.length fu i s).1.tried :: η) := by
 intro fu
 induction fu with
 | zero => intro i s η cN cB _ _ h; omega
 | succ fu ih =>
 intro i s η cN cB hi hok hun0 hN hB
 have hF := open_wide
 refine Rt.of (fn := Tryz.f106) Tryz.func106 rfl rfl ?_
 refine T.seq ?_
 refine T.region ?_
 refine TL.box hF rfl rfl (fun b5 => ?_)
 refine TL.assign hF rfl rfl ?_
 refine TL.nil ?_
 refine TQ.then_n ?_
 refine T.seq ?_
 refine T.seq ?_
 refine T.region ?_
 refine TL.move hF rfl rfl ?_
 refine TL.add hF rfl rfl (by omega) (by omega) rfl ?_
 refine TL.assign hF rfl rfl ?_
 refine TL.nil ?_
 refine TQ.then_n ?_
 refine T.block ?_
 refine T.pick [1, 2, 3, 0] [_, _, _, _] rfl rfl rfl ?_
 have hLL : aug (EP (tx qs)) qs.length (fu + 1) i s = augL (aug (EP (tx qs)) qs.length fu) i (aftK (EP (tx qs)) qs.length i (i + 1)) s := by
  rw [← afterL_aftK (fun j hj he => hup i j hi hj he) hi]; rfl
 rw [hLL]
 refine T.loop (ι := Nat × Mt × Array Value × Array Value) (fun z => match z with | (j, s1, cN, cB) => i < j ∧ j ≤ qs.length ∧ Keep qs.length s s1 ∧ OIs nb cn qs.length s1.nx cN ∧ OIs bb cb qs.length s1.mate cB ∧ augL (aug (EP (tx qs)) qs.length fu) i (aftK (EP (tx qs)) qs.length i (i + 1)) s = augL (aug (EP (tx qs)) qs.length fu) i (aftK (EP (tx qs)) qs.length i j) s1) (fun z => match z with | (j, s1, cN, cB) => [(0, .slice a qs.length c), (2, .int .i64 (i : Int)), (3, .slice (some ⟨tr, 0, none⟩) qs.length qs.length), (5, ptr b5), (8, .bool false), (9, .int .i64 (j : Int))]) (fun z => match z with | (j, s1, cN, cB) => cseg nb cN :: cseg bb cB :: bseg tr qs.length s1.tried :: [(b5, Obj.cells #[.slice (some ⟨nb, 0, none⟩) qs.length cn, .slice (some ⟨bb, 0, none⟩) qs.length cb] 101 (0, 0))] :: η) (fun z => qs.length - z.1) (i + 1, s, cN, cB) ⟨Nat.lt_succ_self _, hi, ⟨hok, fun _ _ h => h⟩, hN, hB, rfl⟩ ⟨rfl, rfl, rfl, rfl, rfl, rfl, trivial⟩ rfl ?_
 clear hN hB cN cB
 rintro ⟨j, s1, cN, cB⟩ ⟨hij, hj, hkp, hN, hB, hag⟩
 refine T.seq ?_
 refine T.seq ?_
 refine T.region ?_
 refine TL.move hF rfl rfl ?_
 refine TL.move hF rfl rfl ?_
 refine TL.len hF rfl rfl ?_
 refine TL.bin hF rfl rfl rfl rfl ?_
 refine TL.nil ?_
 refine TQ.then_n ?_
 first | refine T.cond_d rfl (fun ht15 => ?_) (fun ht15 => ?_) | refine T.cond _ rfl (fun ht15 => ?_) (fun ht15 => ?_)
 ·refine T.skip ?_
  refine TQ.then_n ?_
  refine T.seq ?_
  refine T.block ?_
  refine T.seq ?_
  refine T.seq ?_
  have hjn : j < qs.length := by omega
  rw [aftK_step hjn] at hag
  have hE : (EP (tx qs)) i j = tle (qs[i]).2.1 (qs[j]).2.1 := by
   unfold EP
   rw [tx_getD hi, tx_getD hjn, decide_eq_true (show i ≠ j by omega)]; rfl
  rw [hE] at hag
  rcases htj : s1.tried j with _ | _
  rotate_left
  ·refine T.draw ?_
   refine DR.stepV [_] rfl [(3, _, none)] rfl rfl ⟨⟨rfl, by kernel_rfl⟩, trivial⟩ (fun ext => TL.move hF rfl rfl TL.fin) ?_
   refine DR.stepV [_, _] rfl [(9, _, none)] rfl rfl ⟨⟨rfl, by kernel_rfl⟩, trivial⟩ (fun ext => TL.move hF rfl rfl TL.fin) ?_
   refine DR.stepV [_, _, _] rfl [(18, _, some 0), (19, _, some 1)] rfl rfl ⟨⟨rfl, rfl, rfl⟩, ⟨rfl, rfl, rfl⟩, trivial⟩ (fun ext => TL.indexAddr hF rfl rfl ⟨_, rfl, rfl⟩ (by omega) (by omega) rfl TL.fin) ?_
   refine DR.stepV [_, _, _, _] rfl [(20, _, some 2)] rfl rfl ⟨⟨rfl, rfl, rfl⟩, trivial⟩ (fun ext => TL.load hF rfl (bseg_at (f := s1.tried) (n := qs.length) (b := tr) (j := j) (by simp) hjn) rfl TL.fin) ?_
   refine DR.stepV [_, _, _, _, _] rfl [(21, _, some 3)] rfl rfl ⟨⟨rfl, rfl, rfl⟩, trivial⟩ (fun ext => TL.move hF rfl rfl TL.fin) ?_
   refine DR.stepV [_, _, _, _, _, _] rfl [(0, _, none), (22, _, some 4)] rfl rfl ⟨⟨rfl, by kernel_rfl⟩, ⟨rfl, rfl, rfl⟩, trivial⟩ (fun ext => TL.off hF rfl rfl rfl (by simp [htj]) rfl TL.fin) ?_
   refine DR.stepV [_, _, _, _, _, _, _] rfl [(2, _, none), (22, _, some 4)] rfl rfl ⟨⟨rfl, by kernel_rfl⟩, ⟨rfl, rfl, rfl⟩, trivial⟩ (fun ext => TL.off hF rfl rfl rfl (by simp [htj]) rfl TL.fin) ?_
   refine DR.stepV [_, _, _, _, _, _, _, _] rfl [(23, _, some 5), (24, _, some 6), (22, _, some 4)] rfl rfl ⟨⟨rfl, rfl, rfl⟩, ⟨rfl, rfl, rfl⟩, ⟨rfl, rfl, rfl⟩, trivial⟩ (fun ext => TL.off hF rfl rfl rfl (by simp [htj]) rfl TL.fin) ?_
   refine DR.stepV [_, _, _, _, _, _, _, _, _] rfl [(25, _, some 7), (22, _, some 4)] rfl rfl ⟨⟨rfl, rfl, rfl⟩, ⟨rfl, rfl, rfl⟩, trivial⟩ (fun ext => TL.off hF rfl rfl rfl (by simp [htj]) rfl TL.fin) ?_
   refine DR.stepV [_, _, _, _, _, _, _, _, _, _] rfl [(0, _, none), (22, _, some 4)] rfl rfl ⟨⟨rfl, by kernel_rfl⟩, ⟨rfl, rfl, rfl⟩, trivial⟩ (fun ext => TL.off hF rfl rfl rfl (by simp [htj]) rfl TL.fin) ?_
   refine DR.stepV [_, _, _, _, _, _, _, _, _, _, _] rfl [(9, _, none), (22, _, some 4)] rfl rfl ⟨⟨rfl, by kernel_rfl⟩, ⟨rfl, rfl, rfl⟩, trivial⟩ (fun ext => TL.off hF rfl rfl rfl (by simp [htj]) rfl TL.fin) ?_
   refine DR.stepV [_, _, _, _, _, _, _, _, _, _, _, _] rfl [(27, _, some 9), (28, _, some 10), (22, _, some 4)] rfl rfl ⟨⟨rfl, rfl, rfl⟩, ⟨rfl, rfl, rfl⟩, ⟨rfl, rfl, rfl⟩, trivial⟩ (fun ext => TL.off hF rfl rfl rfl (by simp [htj]) rfl TL.fin) ?_
   refine DR.stepV [_, _, _, _, _, _, _, _, _, _, _, _, _] rfl [(29, _, some 11), (22, _, some 4)] rfl rfl ⟨⟨rfl, rfl, rfl⟩, ⟨rfl, rfl, rfl⟩, trivial⟩ (fun ext => TL.off hF rfl rfl rfl (by simp [htj]) rfl TL.fin) ?_
   refine DR.done [(30, _), (29, _), (28, _), (27, _), (26, _), (25, _), (24, _), (23, _), (22, _), (21, _), (20, _), (19, _), (18, _)] [_, _, _] mixed (by kernel_rfl) (by kernel_rfl) (by kernel_rfl) rfl rfl ?_
   refine TL.off hF rfl rfl rfl (by simp [htj]) rfl ?_
   refine TL.off hF rfl rfl rfl (by simp [htj]) rfl ?_
   refine TL.pickT hF rfl (by simp [htj]) rfl rfl ?_
   refine TL.nil ?_
   refine TQ.then_n ?_
   refine T.cond_t rfl rfl ?_
   refine T.exit ?_
   refine TQ.then_x ?_
   refine TQ.block_x ?_
   refine TQ.then_n ?_
   refine T.region ?_
   refine TL.move hF rfl rfl ?_
   refine TL.add hF rfl rfl (by omega) (by omega) rfl ?_
   refine TL.assign hF rfl rfl ?_
   refine TL.nil ?_
   have hag2 : augL (aug (EP (tx qs)) qs.length fu) i (aftK (EP (tx qs)) qs.length i (i + 1)) s = augL (aug (EP (tx qs)) qs.length fu) i (aftK (EP (tx qs)) qs.length i (j + 1)) s1 := by
    rw [hag]
    split
    ·simp only [augL]; rw [if_pos htj]
    ·rfl
   exact TQ.round (j + 1, s1, cN, cB) ⟨by omega, by omega, hkp, hN, hB, hag2⟩ (by dsimp only; omega) ⟨rfl, rfl, rfl, rfl, rfl, rfl, trivial⟩ rfl
  ·refine T.draw ?_
   refine DR.stepV [_] rfl [(3, _, none)] rfl rfl ⟨⟨rfl, by kernel_rfl⟩, trivial⟩ (fun ext => TL.move hF rfl rfl TL.fin) ?_
   refine DR.stepV [_, _] rfl [(9, _, none)] rfl rfl ⟨⟨rfl, by kernel_rfl⟩, trivial⟩ (fun ext => TL.move hF rfl rfl TL.fin) ?_
   refine DR.stepV [_, _, _] rfl [(18, _, some 0), (19, _, some 1)] rfl rfl ⟨⟨rfl, rfl, rfl⟩, ⟨rfl, rfl, rfl⟩, trivial⟩ (fun ext => TL.indexAddr hF rfl rfl ⟨_, rfl, rfl⟩ (by omega) (by omega) rfl TL.fin) ?_
   refine DR.stepV [_, _, _, _] rfl [(20, _, some 2)] rfl rfl ⟨⟨rfl, rfl, rfl⟩, trivial⟩ (fun ext => TL.load hF rfl (bseg_at (f := s1.tried) (n := qs.length) (b := tr) (j := j) (by simp) hjn) rfl TL.fin) ?_
   refine DR.stepV [_, _, _, _, _] rfl [(21, _, some 3)] rfl rfl ⟨⟨rfl, rfl, rfl⟩, trivial⟩ (fun ext => TL.move hF rfl rfl TL.fin) ?_
   refine DR.stepV [_, _, _, _, _, _] rfl [(0, _, none), (22, _, some 4)] rfl rfl ⟨⟨rfl, by kernel_rfl⟩, ⟨rfl, rfl, rfl⟩, trivial⟩ (fun ext => TL.on rfl rfl rfl (by simp [htj]) <| TL.move hF rfl rfl TL.fin) ?_
   refine DR.stepV [_, _, _, _, _, _, _] rfl [(2, _, none), (22, _, some 4)] rfl rfl ⟨⟨rfl, by kernel_rfl⟩, ⟨rfl, rfl, rfl⟩, trivial⟩ (fun ext => TL.on rfl rfl rfl (by simp [htj]) <| TL.move hF rfl rfl TL.fin) ?_
   refine DR.stepV [_, _, _, _, _, _, _, _] rfl [(23, _, some 5), (24, _, some 6), (22, _, some 4)] rfl rfl ⟨⟨rfl, rfl, rfl⟩, ⟨rfl, rfl, rfl⟩, ⟨rfl, rfl, rfl⟩, trivial⟩ (fun ext => TL.on rfl rfl rfl (by simp [htj]) <| TL.indexAddr hF rfl rfl (hx.ad (i := i) (by omega)) (by omega) (by omega) rfl TL.fin) ?_
   refine DR.stepV [_, _, _, _, _, _, _, _, _] rfl [(25, _, some 7), (22, _, some 4)] rfl rfl ⟨⟨rfl, rfl, rfl⟩, ⟨rfl, rfl, rfl⟩, trivial⟩ (fun ext => TL.on rfl rfl rfl (by simp [htj]) <| TL.load hF rfl (hx.ro.at (i := i) (by omega)) rfl TL.fin) ?_
   refine DR.stepV [_, _, _, _, _, _, _, _, _, _] rfl [(0, _, none), (22, _, some 4)] rfl rfl ⟨⟨rfl, by kernel_rfl⟩, ⟨rfl, rfl, rfl⟩, trivial⟩ (fun ext => TL.on rfl rfl rfl (by simp [htj]) <| TL.move hF rfl rfl TL.fin) ?_
   refine DR.stepV [_, _, _, _, _, _, _, _, _, _, _] rfl [(9, _, none), (22, _, some 4)] rfl rfl ⟨⟨rfl, by kernel_rfl⟩, ⟨rfl, rfl, rfl⟩, trivial⟩ (fun ext => TL.on rfl rfl rfl (by simp [htj]) <| TL.move hF rfl rfl TL.fin) ?_
   refine DR.stepV [_, _, _, _, _, _, _, _, _, _, _, _] rfl [(27, _, some 9), (28, _, some 10), (22, _, some 4)] rfl rfl ⟨⟨rfl, rfl, rfl⟩, ⟨rfl, rfl, rfl⟩, ⟨rfl, rfl, rfl⟩, trivial⟩ (fun ext => TL.on rfl rfl rfl (by simp [htj]) <| TL.indexAddr hF rfl rfl (hx.ad (i := j) (by omega)) (by omega) (by omega) rfl TL.fin) ?_
   refine DR.stepV [_, _, _, _, _, _, _, _, _, _, _, _, _] rfl [(29, _, some 11), (22, _, some 4)] rfl rfl ⟨⟨rfl, rfl, rfl⟩, ⟨rfl, rfl, rfl⟩, trivial⟩ (fun ext => TL.on rfl rfl rfl (by simp [htj]) <| TL.load hF rfl (hx.ro.at (i := j) (by omega)) rfl TL.fin) ?_
   refine DR.done [(30, _), (29, _), (28, _), (27, _), (26, _), (25, _), (24, _), (23, _), (22, _), (21, _), (20, _), (19, _), (18, _)] [_, _, _] mixed (by kernel_rfl) (by kernel_rfl) (by kernel_rfl) rfl rfl ?_
   refine TL.on rfl rfl rfl (by simp [htj]) ?_
   refine TL.callV hF (AtOrBefore_fn (hx.ro.it (i := i) hi) (hx.ro.it (i := j) hjn) ((hw _ (List.getElem_mem _)).trans (hw _ (List.getElem_mem _)).symm) (by rw [hw _ (List.getElem_mem _)]; omega)) rfl rfl ?_
   refine TL.on rfl rfl rfl (by simp [htj]) ?_
   refine TL.not hF rfl rfl ?_
   refine TL.pickF hF rfl (by simp [htj]) rfl rfl ?_
   refine TL.nil ?_
   refine TQ.then_n ?_
   refine T.cond _ rfl (fun ht33 => ?_) (fun ht33 => ?_)
   ·refine T.exit ?_
    refine TQ.then_x ?_
    refine TQ.block_x ?_
    refine TQ.then_n ?_
    refine T.region ?_
    refine TL.move hF rfl rfl ?_
    refine TL.add hF rfl rfl (by omega) (by omega) rfl ?_
    refine TL.assign hF rfl rfl ?_
    refine TL.nil ?_
    rw [if_neg (show ¬ tle (qs[i]).2.1 (qs[j]).2.1 = true by simpa using ht33)] at hag
    exact TQ.round (j + 1, s1, cN, cB) ⟨by omega, by omega, hkp, hN, hB, hag⟩ (by dsimp only; omega) ⟨rfl, rfl, rfl, rfl, rfl, rfl, trivial⟩ rfl
   ·refine T.skip ?_
    refine TQ.then_n ?_
    refine T.seq ?_
    refine T.region ?_
    refine TL.move hF rfl rfl ?_
    refine TL.move hF rfl rfl ?_
    refine TL.indexAddr hF rfl rfl ⟨_, rfl, rfl⟩ (by omega) (by omega) rfl ?_
    refine TL.storeI hF 2 rfl rfl rfl rfl (by simp [rowC_len]; omega) ?_
    refine TL.nil ?_
    refine TQ.then_n ?_
    refine T.seq ?_
    rw [if_pos (show tle (qs[i]).2.1 (qs[j]).2.1 = true by simpa using ht33)] at hag
    refine T.heap (η' := cseg nb cN :: cseg bb cB :: bseg tr qs.length (s1.try' j).tried :: [(b5, Obj.cells #[.slice (some ⟨nb, 0, none⟩) qs.length cn, .slice (some ⟨bb, 0, none⟩) qs.length cb] 101 (0, 0))] :: η) (congrArg (fun z : Seg => cseg nb cN :: cseg bb cB :: z :: [(b5, Obj.cells #[.slice (some ⟨nb, 0, none⟩) qs.length cn, .slice (some ⟨bb, 0, none⟩) qs.length cb] 101 (0, 0))] :: η) (bseg_updU (b := tr) (n := qs.length) (f := s1.tried) (v := true) (k := 0 + ((j : Nat) : Int).toNat * 1) (j := j) (by simp))) ?_
    have hok1 : MtOk qs.length (s1.try' j) := hkp.1.try'
    have hmj := hok1.mate j hjn
    have hun : unt qs.length (s1.try' j).tried < unt qs.length s1.tried := unt_upd hjn htj
    have hun2 : unt qs.length s1.tried ≤ unt qs.length s.tried := unt_mono hkp.2
    simp only [augL] at hag
    rw [if_neg (by rw [htj]; decide)] at hag
    rcases hmt : decide (s1.mate j < 0) with _ | _
    rotate_left
    ·refine T.drawH 15 mixed ?_
     refine DH.pure (i := 0) [(5, _, none)] rfl rfl rfl rfl ⟨⟨rfl, by kernel_rfl⟩, trivial⟩ (fun _ ext => TL.fieldAddr hF rfl rfl TL.fin) ?_
     refine DH.read (i := 1) [(37, _, some 0)] rfl rfl rfl rfl ⟨⟨rfl, rfl, rfl⟩, trivial⟩ (fun ext => TL.load hF rfl (own_mem (cs := #[.slice (some ⟨nb, 0, none⟩) qs.length cn, .slice (some ⟨bb, 0, none⟩) qs.length cb]) (e := 101) (fz := (0, 0)) (by simp) rfl) rfl TL.fin) ?_
     refine DH.pure (i := 2) [(9, _, none)] rfl rfl rfl rfl ⟨⟨rfl, by kernel_rfl⟩, trivial⟩ (fun _ ext => TL.move hF rfl rfl TL.fin) ?_
     refine DH.pure (i := 3) [(38, _, some 1), (39, _, some 2)] rfl rfl rfl rfl ⟨⟨rfl, rfl, rfl⟩, ⟨rfl, rfl, rfl⟩, trivial⟩ (fun _ ext => TL.indexAddr hF rfl rfl ⟨_, rfl, rfl⟩ (by omega) (by omega) rfl TL.fin) ?_
     refine DH.read (i := 4) [(40, _, some 3)] rfl rfl rfl rfl ⟨⟨rfl, rfl, rfl⟩, trivial⟩ (fun ext => TL.load hF rfl (hB.at (j := j) (by simp) hjn) rfl TL.fin) ?_
     refine DH.pure (i := 5) [(41, _, some 4)] rfl rfl rfl rfl ⟨⟨rfl, rfl, rfl⟩, trivial⟩ (fun _ ext => TL.bin hF rfl rfl rfl rfl TL.fin) ?_
     refine DH.pure (i := 6) [(42, _, some 5)] rfl rfl rfl rfl ⟨⟨rfl, rfl, rfl⟩, trivial⟩ (fun _ ext => TL.move hF rfl rfl TL.fin) ?_
     refine DH.pure (i := 7) [(0, _, none), (43, _, some 6)] rfl rfl rfl rfl ⟨⟨rfl, by kernel_rfl⟩, ⟨rfl, rfl, rfl⟩, trivial⟩ (fun _ ext => TL.off hF rfl rfl rfl (by rw [hmt] <;> rfl) rfl TL.fin) ?_
     refine DH.pure (i := 8) [(5, _, none), (43, _, some 6)] rfl rfl rfl rfl ⟨⟨rfl, by kernel_rfl⟩, ⟨rfl, rfl, rfl⟩, trivial⟩ (fun _ ext => TL.off hF rfl rfl rfl (by rw [hmt] <;> rfl) rfl TL.fin) ?_
     refine DH.pure (i := 9) [(5, _, none), (43, _, some 6)] rfl rfl rfl rfl ⟨⟨rfl, by kernel_rfl⟩, ⟨rfl, rfl, rfl⟩, trivial⟩ (fun _ ext => TL.off hF rfl rfl rfl (by rw [hmt] <;> rfl) rfl TL.fin) ?_
     refine DH.pure (i := 10) [(46, _, some 9), (43, _, some 6)] rfl rfl rfl rfl ⟨⟨rfl, rfl, rfl⟩, ⟨rfl, rfl, rfl⟩, trivial⟩ (fun _ ext => TL.off hF rfl rfl rfl (by rw [hmt] <;> rfl) rfl TL.fin) ?_
     refine DH.pure (i := 11) [(9, _, none), (43, _, some 6)] rfl rfl rfl rfl ⟨⟨rfl, by kernel_rfl⟩, ⟨rfl, rfl, rfl⟩, trivial⟩ (fun _ ext => TL.off hF rfl rfl rfl (by rw [hmt] <;> rfl) rfl TL.fin) ?_
     refine DH.pure (i := 12) [(47, _, some 10), (48, _, some 11), (43, _, some 6)] rfl rfl rfl rfl ⟨⟨rfl, rfl, rfl⟩, ⟨rfl, rfl, rfl⟩, ⟨rfl, rfl, rfl⟩, trivial⟩ (fun _ ext => TL.off hF rfl rfl rfl (by rw [hmt] <;> rfl) rfl TL.fin) ?_
     refine DH.pure (i := 13) [(49, _, some 12), (43, _, some 6)] rfl rfl rfl rfl ⟨⟨rfl, rfl, rfl⟩, ⟨rfl, rfl, rfl⟩, trivial⟩ (fun _ ext => TL.off hF rfl rfl rfl (by rw [hmt] <;> rfl) rfl TL.fin) ?_
     refine DH.pure (i := 14) [(3, _, none), (43, _, some 6)] rfl rfl rfl rfl ⟨⟨rfl, by kernel_rfl⟩, ⟨rfl, rfl, rfl⟩, trivial⟩ (fun _ ext => TL.off hF rfl rfl rfl (by rw [hmt] <;> rfl) rfl TL.fin) ?_
     refine DH.done [(51, _), (50, _), (49, _), (48, _), (47, _), (46, _), (45, _), (44, _), (43, _), (42, _), (41, _), (40, _), (39, _), (38, _), (37, _)] [_, _] (by kernel_rfl) (by kernel_rfl) (by kernel_rfl) (by kernel_rfl) rfl rfl ?_
     refine TL.off hF rfl rfl rfl (by rw [hmt] <;> rfl) rfl ?_
     refine TL.pickT hF rfl (by rw [hmt] <;> rfl) rfl rfl ?_
     refine TL.nil ?_
     refine TQ.then_n ?_
     refine T.cond_t rfl rfl ?_
     refine T.seq ?_
     refine T.drawH 10 mixed ?_
     refine DH.pure (i := 0) [(5, _, none)] rfl rfl rfl rfl ⟨⟨rfl, by kernel_rfl⟩, trivial⟩ (fun _ ext => TL.fieldAddr hF rfl rfl TL.fin) ?_
     refine DH.read (i := 1) [(54, _, some 0)] rfl rfl rfl rfl ⟨⟨rfl, rfl, rfl⟩, trivial⟩ (fun ext => TL.load hF rfl (own_mem (cs := #[.slice (some ⟨nb, 0, none⟩) qs.length cn, .slice (some ⟨bb, 0, none⟩) qs.length cb]) (e := 101) (fz := (0, 0)) (by simp) rfl) rfl TL.fin) ?_
     refine DH.pure (i := 2) [(2, _, none)] rfl rfl rfl rfl ⟨⟨rfl, by kernel_rfl⟩, trivial⟩ (fun _ ext => TL.move hF rfl rfl TL.fin) ?_
     refine DH.pure (i := 3) [(5, _, none)] rfl rfl rfl rfl ⟨⟨rfl, by kernel_rfl⟩, trivial⟩ (fun _ ext => TL.fieldAddr hF rfl rfl TL.fin) ?_
     refine DH.read (i := 4) [(57, _, some 3)] rfl rfl rfl rfl ⟨⟨rfl, rfl, rfl⟩, trivial⟩ (fun ext => TL.load hF rfl (own_mem (cs := #[.slice (some ⟨nb, 0, none⟩) qs.length cn, .slice (some ⟨bb, 0, none⟩) qs.length cb]) (e := 101) (fz := (0, 0)) (by simp) rfl) rfl TL.fin) ?_
     refine DH.pure (i := 5) [(9, _, none)] rfl rfl rfl rfl ⟨⟨rfl, by kernel_rfl⟩, trivial⟩ (fun _ ext => TL.move hF rfl rfl TL.fin) ?_
     refine DH.pure (i := 6) [(9, _, none)] rfl rfl rfl rfl ⟨⟨rfl, by kernel_rfl⟩, trivial⟩ (fun _ ext => TL.move hF rfl rfl TL.fin) ?_
     refine DH.pure (i := 7) [(2, _, none)] rfl rfl rfl rfl ⟨⟨rfl, by kernel_rfl⟩, trivial⟩ (fun _ ext => TL.move hF rfl rfl TL.fin) ?_
     refine DH.pure (i := 8) [(55, _, some 1), (56, _, some 2)] rfl rfl rfl rfl ⟨⟨rfl, rfl, rfl⟩, ⟨rfl, rfl, rfl⟩, trivial⟩ (fun _ ext => TL.indexAddr hF rfl rfl ⟨_, rfl, rfl⟩ (by omega) (by omega) rfl TL.fin) ?_
     refine DH.k1 (by kernel_rfl) (by kernel_rfl) (by kernel_rfl) (by kernel_rfl) (HBK.mk (h := 9) [4] [(62, _, some 8), (60, _, some 6)] rfl rfl rfl ⟨⟨rfl, rfl, rfl⟩, ⟨rfl, rfl, rfl⟩, trivial⟩ (by kernel_rfl) (fun ext => ?_))
     refine TL.storeI hF 0 rfl rfl rfl rfl (by have := hN.size; simp; omega) ?_
     refine TL.finKN ⟨⟨_, rfl, _, _, [(57, _, some 3)], rfl, rfl, ⟨⟨rfl, rfl, rfl⟩, trivial⟩, fun ext => TL.load hF rfl (own_mem (cs := #[.slice (some ⟨nb, 0, none⟩) qs.length cn, .slice (some ⟨bb, 0, none⟩) qs.length cb]) (e := 101) (fz := (0, 0)) (by simp) rfl) rfl TL.fin⟩, trivial⟩ ?_
     refine DH.done [(62, _), (61, _), (60, _), (59, _), (58, _), (57, _), (56, _), (55, _), (54, _)] [_, _] (by kernel_rfl) (by kernel_rfl) (by kernel_rfl) (by kernel_rfl) rfl rfl ?_
     refine TL.indexAddr hF rfl rfl ⟨_, rfl, rfl⟩ (by omega) (by omega) rfl ?_
     refine TL.storeI hF 1 rfl rfl rfl rfl (by have := hB.size; simp; omega) ?_
     refine TL.nil ?_
     refine TQ.then_n ?_
     refine T.seq ?_
     refine T.region ?_
     refine TL.assign hF rfl rfl ?_
     refine TL.nil ?_
     refine TQ.then_n ?_
     refine T.ret ?_
     refine TQ.block_r ?_
     refine TQ.then_r ?_
     refine TQ.then_r ?_
     refine TQ.block_r ?_
     refine TQ.then_r ?_
     rw [if_pos (of_decide_eq_true hmt)] at hag
     have hN := (hN.put i (j : Int)); have hB := (hB.put j (i : Int))
     refine TQ.pick [0, 1, 2] [_, _, _, _] rfl rfl rfl ?_
     refine TQ.rets [8] _ rfl rfl rfl ?_
     rw [hag]
     refine ⟨rfl, _, _, hN, hB, ?_⟩
     simp [pickL, Mt.link]
    ·refine T.drawH 15 mixed ?_
     refine DH.pure (i := 0) [(5, _, none)] rfl rfl rfl rfl ⟨⟨rfl, by kernel_rfl⟩, trivial⟩ (fun _ ext => TL.fieldAddr hF rfl rfl TL.fin) ?_
     refine DH.read (i := 1) [(37, _, some 0)] rfl rfl rfl rfl ⟨⟨rfl, rfl, rfl⟩, trivial⟩ (fun ext => TL.load hF rfl (own_mem (cs := #[.slice (some ⟨nb, 0, none⟩) qs.length cn, .slice (some ⟨bb, 0, none⟩) qs.length cb]) (e := 101) (fz := (0, 0)) (by simp) rfl) rfl TL.fin) ?_
     refine DH.pure (i := 2) [(9, _, none)] rfl rfl rfl rfl ⟨⟨rfl, by kernel_rfl⟩, trivial⟩ (fun _ ext => TL.move hF rfl rfl TL.fin) ?_
     refine DH.pure (i := 3) [(38, _, some 1), (39, _, some 2)] rfl rfl rfl rfl ⟨⟨rfl, rfl, rfl⟩, ⟨rfl, rfl, rfl⟩, trivial⟩ (fun _ ext => TL.indexAddr hF rfl rfl ⟨_, rfl, rfl⟩ (by omega) (by omega) rfl TL.fin) ?_
     refine DH.read (i := 4) [(40, _, some 3)] rfl rfl rfl rfl ⟨⟨rfl, rfl, rfl⟩, trivial⟩ (fun ext => TL.load hF rfl (hB.at (j := j) (by simp) hjn) rfl TL.fin) ?_
     refine DH.pure (i := 5) [(41, _, some 4)] rfl rfl rfl rfl ⟨⟨rfl, rfl, rfl⟩, trivial⟩ (fun _ ext => TL.bin hF rfl rfl rfl rfl TL.fin) ?_
     refine DH.pure (i := 6) [(42, _, some 5)] rfl rfl rfl rfl ⟨⟨rfl, rfl, rfl⟩, trivial⟩ (fun _ ext => TL.move hF rfl rfl TL.fin) ?_
     refine DH.pure (i := 7) [(0, _, none), (43, _, some 6)] rfl rfl rfl rfl ⟨⟨rfl, by kernel_rfl⟩, ⟨rfl, rfl, rfl⟩, trivial⟩ (fun _ ext => TL.on rfl rfl rfl (by rw [hmt] <;> rfl) <| TL.move hF rfl rfl TL.fin) ?_
     refine DH.read (i := 8) [(5, _, none), (43, _, some 6)] rfl rfl rfl rfl ⟨⟨rfl, by kernel_rfl⟩, ⟨rfl, rfl, rfl⟩, trivial⟩ (fun ext => TL.on rfl rfl rfl (by rw [hmt] <;> rfl) <| TL.loadA hF [.slice (some ⟨nb, 0, none⟩) qs.length cn, .slice (some ⟨bb, 0, none⟩) qs.length cb] rfl rfl (own_listM (e := 101) (fz := (0, 0)) (cs := [.slice (some ⟨nb, 0, none⟩) qs.length cn, .slice (some ⟨bb, 0, none⟩) qs.length cb]) (by simp)) rfl TL.fin) ?_
     refine DH.pure (i := 9) [(5, _, none), (43, _, some 6)] rfl rfl rfl rfl ⟨⟨rfl, by kernel_rfl⟩, ⟨rfl, rfl, rfl⟩, trivial⟩ (fun _ ext => TL.on rfl rfl rfl (by rw [hmt] <;> rfl) <| TL.fieldAddr hF rfl rfl TL.fin) ?_
     refine DH.read (i := 10) [(46, _, some 9), (43, _, some 6)] rfl rfl rfl rfl ⟨⟨rfl, rfl, rfl⟩, ⟨rfl, rfl, rfl⟩, trivial⟩ (fun ext => TL.on rfl rfl rfl (by rw [hmt] <;> rfl) <| TL.load hF rfl (own_mem (cs := #[.slice (some ⟨nb, 0, none⟩) qs.length cn, .slice (some ⟨bb, 0, none⟩) qs.length cb]) (e := 101) (fz := (0, 0)) (by simp) rfl) rfl TL.fin) ?_
     refine DH.pure (i := 11) [(9, _, none), (43, _, some 6)] rfl rfl rfl rfl ⟨⟨rfl, by kernel_rfl⟩, ⟨rfl, rfl, rfl⟩, trivial⟩ (fun _ ext => TL.on rfl rfl rfl (by rw [hmt] <;> rfl) <| TL.move hF rfl rfl TL.fin) ?_
     refine DH.pure (i := 12) [(47, _, some 10), (48, _, some 11), (43, _, some 6)] rfl rfl rfl rfl ⟨⟨rfl, rfl, rfl⟩, ⟨rfl, rfl, rfl⟩, ⟨rfl, rfl, rfl⟩, trivial⟩ (fun _ ext => TL.on rfl rfl rfl (by rw [hmt] <;> rfl) <| TL.indexAddr hF rfl rfl ⟨_, rfl, rfl⟩ (by omega) (by omega) rfl TL.fin) ?_
     refine DH.read (i := 13) [(49, _, some 12), (43, _, some 6)] rfl rfl rfl rfl ⟨⟨rfl, rfl, rfl⟩, ⟨rfl, rfl, rfl⟩, trivial⟩ (fun ext => TL.on rfl rfl rfl (by rw [hmt] <;> rfl) <| TL.load hF rfl (hB.at (j := j) (by simp) hjn) rfl TL.fin) ?_
     refine DH.pure (i := 14) [(3, _, none), (43, _, some 6)] rfl rfl rfl rfl ⟨⟨rfl, by kernel_rfl⟩, ⟨rfl, rfl, rfl⟩, trivial⟩ (fun _ ext => TL.on rfl rfl rfl (by rw [hmt] <;> rfl) <| TL.move hF rfl rfl TL.fin) ?_
     refine DH.done [(51, _), (50, _), (49, _), (48, _), (47, _), (46, _), (45, _), (44, _), (43, _), (42, _), (41, _), (40, _), (39, _), (38, _), (37, _)] [_, _] (by kernel_rfl) (by kernel_rfl) (by kernel_rfl) (by kernel_rfl) rfl rfl ?_
     refine TL.on rfl rfl rfl (by rw [hmt] <;> rfl) ?_
     have hnn : ¬ s1.mate j < 0 := of_decide_eq_false hmt
     have hrec := ih (η := [(b5, Obj.cells #[.slice (some ⟨nb, 0, none⟩) qs.length cn, .slice (some ⟨bb, 0, none⟩) qs.length cb] 101 (0, 0))] :: η) (i := (s1.mate j).toNat) (s := s1.try' j) (by have h2 : s1.mate j < qs.length := hmj.2; omega) hok1 (by omega) hN hB
     rw [Int.toNat_of_nonneg (show 0 ≤ s1.mate j by omega)] at hrec
     refine TL.call hF hrec rfl rfl ?_
     rw [if_neg hnn] at hag
     clear hN hB
     rintro _ _ ⟨rfl, cN, cB, hN, hB, rfl⟩
     refine TL.pickF hF rfl (by rw [hmt] <;> rfl) rfl rfl ?_
     refine TL.nil ?_
     refine TQ.then_n ?_
     refine T.cond _ rfl (fun ht53 => ?_) (fun ht53 => ?_)
     ·refine T.seq ?_
      refine T.drawH 10 mixed ?_
      refine DH.pure (i := 0) [(5, _, none)] rfl rfl rfl rfl ⟨⟨rfl, by kernel_rfl⟩, trivial⟩ (fun _ ext => TL.fieldAddr hF rfl rfl TL.fin) ?_
      refine DH.read (i := 1) [(54, _, some 0)] rfl rfl rfl rfl ⟨⟨rfl, rfl, rfl⟩, trivial⟩ (fun ext => TL.load hF rfl (own_mem (cs := #[.slice (some ⟨nb, 0, none⟩) qs.length cn, .slice (some ⟨bb, 0, none⟩) qs.length cb]) (e := 101) (fz := (0, 0)) (by simp) rfl) rfl TL.fin) ?_
      refine DH.pure (i := 2) [(2, _, none)] rfl rfl rfl rfl ⟨⟨rfl, by kernel_rfl⟩, trivial⟩ (fun _ ext => TL.move hF rfl rfl TL.fin) ?_
      refine DH.pure (i := 3) [(5, _, none)] rfl rfl rfl rfl ⟨⟨rfl, by kernel_rfl⟩, trivial⟩ (fun _ ext => TL.fieldAddr hF rfl rfl TL.fin) ?_
      refine DH.read (i := 4) [(57, _, some 3)] rfl rfl rfl rfl ⟨⟨rfl, rfl, rfl⟩, trivial⟩ (fun ext => TL.load hF rfl (own_mem (cs := #[.slice (some ⟨nb, 0, none⟩) qs.length cn, .slice (some ⟨bb, 0, none⟩) qs.length cb]) (e := 101) (fz := (0, 0)) (by simp) rfl) rfl TL.fin) ?_
      refine DH.pure (i := 5) [(9, _, none)] rfl rfl rfl rfl ⟨⟨rfl, by kernel_rfl⟩, trivial⟩ (fun _ ext => TL.move hF rfl rfl TL.fin) ?_
      refine DH.pure (i := 6) [(9, _, none)] rfl rfl rfl rfl ⟨⟨rfl, by kernel_rfl⟩, trivial⟩ (fun _ ext => TL.move hF rfl rfl TL.fin) ?_
      refine DH.pure (i := 7) [(2, _, none)] rfl rfl rfl rfl ⟨⟨rfl, by kernel_rfl⟩, trivial⟩ (fun _ ext => TL.move hF rfl rfl TL.fin) ?_
      refine DH.pure (i := 8) [(55, _, some 1), (56, _, some 2)] rfl rfl rfl rfl ⟨⟨rfl, rfl, rfl⟩, ⟨rfl, rfl, rfl⟩, trivial⟩ (fun _ ext => TL.indexAddr hF rfl rfl ⟨_, rfl, rfl⟩ (by omega) (by omega) rfl TL.fin) ?_
      refine DH.k1 (by kernel_rfl) (by kernel_rfl) (by kernel_rfl) (by kernel_rfl) (HBK.mk (h := 9) [4] [(62, _, some 8), (60, _, some 6)] rfl rfl rfl ⟨⟨rfl, rfl, rfl⟩, ⟨rfl, rfl, rfl⟩, trivial⟩ (by kernel_rfl) (fun ext => ?_))
      refine TL.storeI hF 0 rfl rfl rfl rfl (by have := hN.size; simp; omega) ?_
      refine TL.finKN ⟨⟨_, rfl, _, _, [(57, _, some 3)], rfl, rfl, ⟨⟨rfl, rfl, rfl⟩, trivial⟩, fun ext => TL.load hF rfl (own_mem (cs := #[.slice (some ⟨nb, 0, none⟩) qs.length cn, .slice (some ⟨bb, 0, none⟩) qs.length cb]) (e := 101) (fz := (0, 0)) (by simp) rfl) rfl TL.fin⟩, trivial⟩ ?_
      refine DH.done [(62, _), (61, _), (60, _), (59, _), (58, _), (57, _), (56, _), (55, _), (54, _)] [_, _] (by kernel_rfl) (by kernel_rfl) (by kernel_rfl) (by kernel_rfl) rfl rfl ?_
      refine TL.indexAddr hF rfl rfl ⟨_, rfl, rfl⟩ (by omega) (by omega) rfl ?_
      refine TL.storeI hF 1 rfl rfl rfl rfl (by have := hB.size; simp; omega) ?_
      refine TL.nil ?_
      refine TQ.then_n ?_
      refine T.seq ?_
      refine T.region ?_
      refine TL.assign hF rfl rfl ?_
      refine TL.nil ?_
      refine TQ.then_n ?_
      refine T.ret ?_
      refine TQ.block_r ?_
      refine TQ.then_r ?_
      refine TQ.then_r ?_
      refine TQ.block_r ?_
      refine TQ.then_r ?_
      rw [if_pos ht53] at hag
      have hN := (hN.put i (j : Int)); have hB := (hB.put j (i : Int))
      refine TQ.pick [0, 1, 2] [_, _, _, _] rfl rfl rfl ?_
      refine TQ.rets [8] _ rfl rfl rfl ?_
      rw [hag]
      refine ⟨rfl, _, _, hN, hB, ?_⟩
      simp [pickL, Mt.link]
     ·refine T.skip ?_
      refine TQ.block_n ?_
      refine TQ.then_n ?_
      refine T.region ?_
      refine TL.move hF rfl rfl ?_
      refine TL.add hF rfl rfl (by omega) (by omega) rfl ?_
      refine TL.assign hF rfl rfl ?_
      refine TL.nil ?_
      rw [if_neg (show ¬ ((aug (EP (tx qs)) qs.length fu) (s1.mate j).toNat (s1.try' j)).2 = true by rw [ht53]; decide)] at hag
      exact TQ.round (j + 1, ((aug (EP (tx qs)) qs.length fu) (s1.mate j).toNat (s1.try' j)).1, cN, cB) ⟨by omega, by omega, hkp.try_.trans (aug_keep fu _ _ (by have h2 : s1.mate j < qs.length := hmj.2; omega) hok1), hN, hB, hag⟩ (by dsimp only; omega) ⟨rfl, rfl, rfl, rfl, rfl, rfl, trivial⟩ rfl
 ·refine T.exit ?_
  refine TQ.then_x ?_
  refine TQ.then_x ?_
  refine TQ.block_x ?_
  refine TQ.then_n ?_
  refine T.seq ?_
  refine T.region ?_
  refine TL.assign hF rfl rfl ?_
  refine TL.nil ?_
  refine TQ.then_n ?_
  refine T.ret ?_
  have hjj : ¬ (j : Int) < (qs.length : Int) := ht15
  rw [aftK_end (show qs.length ≤ j by omega)] at hag
  refine TQ.pick [0, 1, 2] [_, _, _, _] rfl rfl rfl ?_
  refine TQ.rets [8] _ rfl rfl rfl ?_
  rw [hag]
  exact ⟨rfl, cN, cB, hN, hB, rfl⟩
end Go.Proofs.YteimjjpigohnhaaGreat
/- How many chains are the fewest, by the specification. -/
namespace Go.Proofs.YteimjjpigohnhaaGreat
open Go.Sl
variable {S : Nat → Prop} {w0 : World} {η : Heap}
theorem intC_app {i : Nat} {v : Int} : intC (i + 1) (fun _ => v) = intC i (fun _ => v) ++ [.int .i64 v] := by
 unfold intC; rw [List.range_succ, List.map_append]; rfl
set_option maxHeartbeats 2000000 in
theorem Few_ref {a : Option Addr} {c w : Nat} {qs : List HL} (hx : LL S w0 [] a qs) (hl : qs.length ≤ 1000) (hw : ∀ p ∈ qs, p.2.1.length = w) (hw4 : w ≤ 4) (hup : ∀ i j, i < qs.length → j < qs.length → EP (tx qs) i j = true → i < j) :
  Rt Tryz.prog 50 [.slice a qs.length c].toArray S w0 η (fun v η' => v = .int .i64 ((qs.length : Int) - ((numM (EP (tx qs)) qs.length qs.length : Nat) : Int)) ∧ η' = η) := by
 have hF := open_wide
 refine Rt.of (fn := Tryz.f50) Tryz.func50 rfl rfl ?_
 refine T.seq ?_
 refine T.region ?_
 refine TL.assign hF rfl rfl ?_
 refine TL.nil ?_
 refine TQ.then_n ?_
 refine T.seq ?_
 refine T.region ?_
 refine TL.build hF rfl (r := .agg #[.slice none 0 0, .slice none 0 0]) (fun w => by kernel_rfl) rfl ?_
 refine TL.move hF rfl rfl ?_
 refine TL.len hF rfl rfl ?_
 refine TL.alloc hF rfl (fun b3 => ?_)
 refine TL.storeAI hF [.slice none 0 0, .slice none 0 0] 0 rfl rfl rfl rfl (by simp [Value.oneCell']) (by simp [Value.cells]) ?_
 refine TL.assign hF rfl rfl ?_
 refine TL.nil ?_
 refine TQ.then_n ?_
 refine T.seq ?_
 refine T.seq ?_
 refine T.region ?_
 refine TL.assign hF rfl rfl ?_
 refine TL.nil ?_
 refine TQ.then_n ?_
 refine T.block ?_
 refine T.hnil ?_
 refine T.hnil ?_
 refine T.pick [2, 0, 1] [_, _, _] rfl rfl rfl ?_
 refine T.loop (ι := Nat × Option Addr × Nat × Seg × Option Addr × Nat × Seg) (fun z => match z with | (i, a1, c1, g1, a2, c2, g2) => i ≤ qs.length ∧ OSl 3 1 (.slice a1 i c1) i (intC i (fun _ => (-1 : Int))) g1 ∧ OSl 3 1 (.slice a2 i c2) i (intC i (fun _ => (-1 : Int))) g2) (fun z => match z with | (i, a1, c1, g1, a2, c2, g2) => [(0, .slice a qs.length c), (2, .int .i64 0), (3, ptr b3), (4, .int .i64 (qs.length : Int)), (5, .int .i64 (i : Int))]) (fun z => match z with | (i, a1, c1, g1, a2, c2, g2) => [(b3, Obj.cells #[.slice a1 i c1, .slice a2 i c2] 101 (0, 0))] :: g1 :: g2 :: η) (fun z => qs.length - z.1) (0, none, 0, [], none, 0, []) ⟨Nat.zero_le _, OSl.nil _ _, OSl.nil _ _⟩ ⟨rfl, rfl, rfl, rfl, rfl, trivial⟩ (by simp [Value.cells, pickL]) ?_
 rintro ⟨i, a1, c1, g1, a2, c2, g2⟩ ⟨hi, ho1, ho2⟩
 refine T.seq ?_
 refine T.seq ?_
 refine T.region ?_
 refine TL.move hF rfl rfl ?_
 refine TL.move hF rfl rfl ?_
 refine TL.len hF rfl rfl ?_
 refine TL.bin hF rfl rfl rfl rfl ?_
 refine TL.nil ?_
 refine TQ.then_n ?_
 first | refine T.cond_d rfl (fun ht13 => ?_) (fun ht13 => ?_) | refine T.cond _ rfl (fun ht13 => ?_) (fun ht13 => ?_)
 ·refine T.skip ?_
  refine TQ.then_n ?_
  refine T.seq ?_
  refine T.block ?_
  refine T.drawH 9 mixed ?_
  refine DH.pure (i := 0) [(3, _, none)] rfl rfl rfl rfl ⟨⟨rfl, by kernel_rfl⟩, trivial⟩ (fun _ ext => TL.fieldAddr hF rfl rfl TL.fin) ?_
  refine DH.read (i := 1) [(16, _, some 0)] rfl rfl rfl rfl ⟨⟨rfl, rfl, rfl⟩, trivial⟩ (fun ext => TL.load hF rfl (own_mem (cs := #[.slice a1 i c1, .slice a2 i c2]) (e := 101) (fz := (0, 0)) (by simp) rfl) rfl TL.fin) ?_
  refine DH.pure (i := 4) [(3, _, none)] rfl rfl rfl rfl ⟨⟨rfl, by kernel_rfl⟩, trivial⟩ (fun _ ext => TL.fieldAddr hF rfl rfl TL.fin) ?_
  refine DH.read (i := 5) [(20, _, some 4)] rfl rfl rfl rfl ⟨⟨rfl, rfl, rfl⟩, trivial⟩ (fun ext => TL.load hF rfl (own_mem (cs := #[.slice a1 i c1, .slice a2 i c2]) (e := 101) (fz := (0, 0)) (by simp) rfl) rfl TL.fin) ?_
  refine DH.k2 (by kernel_rfl) (by kernel_rfl) (by kernel_rfl) (by kernel_rfl) (HBK.mk (h := 2) [1, 5] [] rfl rfl rfl trivial (by kernel_rfl) (fun ext => ?_)) (HBK.mk (h := 6) [1, 5] [] rfl rfl rfl trivial (by kernel_rfl) (fun ext => ?_))
  ·refine TL.buildSlice hF rfl (cs := #[.int .i64 (-1)]) (e := 3) (fun w => by kernel_rfl) rfl (fun b18 => ?_)
   refine TL.finK ⟨⟨_, rfl, _, _, [(16, _, some 0)], rfl, rfl, ⟨⟨rfl, rfl, rfl⟩, trivial⟩, fun ext => TL.load hF rfl (own_mem (cs := #[.slice a1 i c1, .slice a2 i c2]) (e := 101) (fz := (0, 0)) (by simp) rfl) rfl TL.fin⟩, ⟨_, rfl, _, _, [(20, _, some 4)], rfl, rfl, ⟨⟨rfl, rfl, rfl⟩, trivial⟩, fun ext => TL.load hF rfl (own_mem (cs := #[.slice a1 i c1, .slice a2 i c2]) (e := 101) (fz := (0, 0)) (by simp) rfl) rfl TL.fin⟩, trivial⟩ ?_
   refine DH.k2 (by kernel_rfl) (by kernel_rfl) (by kernel_rfl) (by kernel_rfl) (HBK.mk (h := 3) [5] [(17, _, some 1), (18, _, some 2)] rfl rfl rfl ⟨⟨rfl, rfl, rfl⟩, ⟨rfl, rfl, rfl⟩, trivial⟩ (by kernel_rfl) (fun ext => ?_)) (HBK.mk (h := 6) [1, 5] [] rfl rfl rfl trivial (by kernel_rfl) (fun ext => ?_))
   ·refine TL.append hF 2 rfl rfl rfl ho1 (row_own (cs := [.int .i64 (-1)]) (e := 3) (by simp)).src rfl rfl (by simp [Value.oneCell']) (by omega) (by omega) rfl (fun p cp gp hp => ?_)
    rw [← intC_app] at hp
    refine TL.finK ⟨⟨_, rfl, _, _, [(20, _, some 4)], rfl, rfl, ⟨⟨rfl, rfl, rfl⟩, trivial⟩, fun ext => TL.load hF rfl (own_mem (cs := #[.slice a1 i c1, .slice a2 i c2]) (e := 101) (fz := (0, 0)) (by simp) rfl) rfl TL.fin⟩, trivial⟩ ?_
    refine DH.pure (i := 8) [(3, _, none)] rfl rfl rfl rfl ⟨⟨rfl, by kernel_rfl⟩, trivial⟩ (fun _ ext => TL.fieldAddr hF rfl rfl TL.fin) ?_
    refine DH.k1 (by kernel_rfl) (by kernel_rfl) (by kernel_rfl) (by kernel_rfl) (HBK.mk (h := 6) [5] [] rfl rfl rfl trivial (by kernel_rfl) (fun ext => ?_))
    refine TL.buildSlice hF rfl (cs := #[.int .i64 (-1)]) (e := 3) (fun w => by kernel_rfl) rfl (fun b22 => ?_)
    refine TL.finK ⟨⟨_, rfl, _, _, [(20, _, some 4)], rfl, rfl, ⟨⟨rfl, rfl, rfl⟩, trivial⟩, fun ext => TL.load hF rfl (own_mem (cs := #[.slice a1 i c1, .slice a2 i c2]) (e := 101) (fz := (0, 0)) (by simp) rfl) rfl TL.fin⟩, trivial⟩ ?_
    refine DH.heavy 7 [(21, _, some 5), (22, _, some 6)] (by kernel_rfl) (by kernel_rfl) (by kernel_rfl) (by kernel_rfl) rfl rfl rfl rfl ⟨⟨rfl, rfl, rfl⟩, ⟨rfl, rfl, rfl⟩, trivial⟩ (by kernel_rfl) (fun ext => ?_)
    refine TL.append hF 4 rfl rfl rfl ho2 (row_own (cs := [.int .i64 (-1)]) (e := 3) (by simp)).src rfl rfl (by simp [Value.oneCell']) (by omega) (by omega) rfl (fun q cq gq hq => ?_)
    rw [← intC_app] at hq
    refine TL.finD ?_
    refine DH.done [(23, _), (22, _), (24, _), (19, _), (18, _), (21, _), (20, _), (17, _), (16, _)] [_, _, _] (by kernel_rfl) (by kernel_rfl) (by kernel_rfl) (by kernel_rfl) rfl rfl ?_
    refine TL.storeI hF 2 rfl rfl rfl rfl (by simp) ?_
    refine TL.fieldAddr hF rfl rfl ?_
    refine TL.storeI hF 2 rfl rfl rfl rfl (by simp) ?_
    refine TL.nil ?_
    refine TQ.block_n ?_
    refine TQ.then_n ?_
    refine T.region ?_
    refine TL.move hF rfl rfl ?_
    refine TL.add hF rfl rfl (by omega) (by omega) rfl ?_
    refine TL.assign hF rfl rfl ?_
    refine TL.nil ?_
    refine TQ.pop ?_
    refine TQ.pop ?_
    exact TQ.round (i + 1, p, cp, gp, q, cq, gq) ⟨by omega, hp, hq⟩ (by dsimp only; omega) ⟨rfl, rfl, rfl, rfl, rfl, trivial⟩ rfl
   ·refine TL.buildSlice hF rfl (cs := #[.int .i64 (-1)]) (e := 3) (fun w => by kernel_rfl) rfl (fun b22 => ?_)
    refine TL.finK ⟨⟨_, rfl, _, _, [(16, _, some 0)], rfl, rfl, ⟨⟨rfl, rfl, rfl⟩, trivial⟩, fun ext => TL.load hF rfl (own_mem (cs := #[.slice a1 i c1, .slice a2 i c2]) (e := 101) (fz := (0, 0)) (by simp) rfl) rfl TL.fin⟩, ⟨_, rfl, _, _, [(20, _, some 4)], rfl, rfl, ⟨⟨rfl, rfl, rfl⟩, trivial⟩, fun ext => TL.load hF rfl (own_mem (cs := #[.slice a1 i c1, .slice a2 i c2]) (e := 101) (fz := (0, 0)) (by simp) rfl) rfl TL.fin⟩, trivial⟩ ?_
    refine DH.k1 (by kernel_rfl) (by kernel_rfl) (by kernel_rfl) (by kernel_rfl) (HBK.mk (h := 3) [5] [(17, _, some 1), (18, _, some 2)] rfl rfl rfl ⟨⟨rfl, rfl, rfl⟩, ⟨rfl, rfl, rfl⟩, trivial⟩ (by kernel_rfl) (fun ext => ?_))
    refine TL.append hF 3 rfl rfl rfl ho1 (row_own (cs := [.int .i64 (-1)]) (e := 3) (by simp)).src rfl rfl (by simp [Value.oneCell']) (by omega) (by omega) rfl (fun p cp gp hp => ?_)
    rw [← intC_app] at hp
    refine TL.finK ⟨⟨_, rfl, _, _, [(20, _, some 4)], rfl, rfl, ⟨⟨rfl, rfl, rfl⟩, trivial⟩, fun ext => TL.load hF rfl (own_mem (cs := #[.slice a1 i c1, .slice a2 i c2]) (e := 101) (fz := (0, 0)) (by simp) rfl) rfl TL.fin⟩, trivial⟩ ?_
    refine DH.pure (i := 8) [(3, _, none)] rfl rfl rfl rfl ⟨⟨rfl, by kernel_rfl⟩, trivial⟩ (fun _ ext => TL.fieldAddr hF rfl rfl TL.fin) ?_
    refine DH.heavy 7 [(21, _, some 5), (22, _, some 6)] (by kernel_rfl) (by kernel_rfl) (by kernel_rfl) (by kernel_rfl) rfl rfl rfl rfl ⟨⟨rfl, rfl, rfl⟩, ⟨rfl, rfl, rfl⟩, trivial⟩ (by kernel_rfl) (fun ext => ?_)
    refine TL.append hF 4 rfl rfl rfl ho2 (row_own (cs := [.int .i64 (-1)]) (e := 3) (by simp)).src rfl rfl (by simp [Value.oneCell']) (by omega) (by omega) rfl (fun q cq gq hq => ?_)
    rw [← intC_app] at hq
    refine TL.finD ?_
    refine DH.done [(23, _), (24, _), (19, _), (22, _), (18, _), (21, _), (20, _), (17, _), (16, _)] [_, _, _] (by kernel_rfl) (by kernel_rfl) (by kernel_rfl) (by kernel_rfl) rfl rfl ?_
    refine TL.storeI hF 2 rfl rfl rfl rfl (by simp) ?_
    refine TL.fieldAddr hF rfl rfl ?_
    refine TL.storeI hF 2 rfl rfl rfl rfl (by simp) ?_
    refine TL.nil ?_
    refine TQ.block_n ?_
    refine TQ.then_n ?_
    refine T.region ?_
    refine TL.move hF rfl rfl ?_
    refine TL.add hF rfl rfl (by omega) (by omega) rfl ?_
    refine TL.assign hF rfl rfl ?_
    refine TL.nil ?_
    refine TQ.pop ?_
    refine TQ.pop ?_
    exact TQ.round (i + 1, p, cp, gp, q, cq, gq) ⟨by omega, hp, hq⟩ (by dsimp only; omega) ⟨rfl, rfl, rfl, rfl, rfl, trivial⟩ rfl
  ·refine TL.buildSlice hF rfl (cs := #[.int .i64 (-1)]) (e := 3) (fun w => by kernel_rfl) rfl (fun b22 => ?_)
   refine TL.finK ⟨⟨_, rfl, _, _, [(16, _, some 0)], rfl, rfl, ⟨⟨rfl, rfl, rfl⟩, trivial⟩, fun ext => TL.load hF rfl (own_mem (cs := #[.slice a1 i c1, .slice a2 i c2]) (e := 101) (fz := (0, 0)) (by simp) rfl) rfl TL.fin⟩, ⟨_, rfl, _, _, [(20, _, some 4)], rfl, rfl, ⟨⟨rfl, rfl, rfl⟩, trivial⟩, fun ext => TL.load hF rfl (own_mem (cs := #[.slice a1 i c1, .slice a2 i c2]) (e := 101) (fz := (0, 0)) (by simp) rfl) rfl TL.fin⟩, trivial⟩ ?_
   refine DH.k1 (by kernel_rfl) (by kernel_rfl) (by kernel_rfl) (by kernel_rfl) (HBK.mk (h := 2) [1, 5] [] rfl rfl rfl trivial (by kernel_rfl) (fun ext => ?_))
   refine TL.buildSlice hF rfl (cs := #[.int .i64 (-1)]) (e := 3) (fun w => by kernel_rfl) rfl (fun b18 => ?_)
   refine TL.finK ⟨⟨_, rfl, _, _, [(16, _, some 0)], rfl, rfl, ⟨⟨rfl, rfl, rfl⟩, trivial⟩, fun ext => TL.load hF rfl (own_mem (cs := #[.slice a1 i c1, .slice a2 i c2]) (e := 101) (fz := (0, 0)) (by simp) rfl) rfl TL.fin⟩, ⟨_, rfl, _, _, [(20, _, some 4)], rfl, rfl, ⟨⟨rfl, rfl, rfl⟩, trivial⟩, fun ext => TL.load hF rfl (own_mem (cs := #[.slice a1 i c1, .slice a2 i c2]) (e := 101) (fz := (0, 0)) (by simp) rfl) rfl TL.fin⟩, trivial⟩ ?_
   refine DH.k1 (by kernel_rfl) (by kernel_rfl) (by kernel_rfl) (by kernel_rfl) (HBK.mk (h := 3) [5] [(17, _, some 1), (18, _, some 2)] rfl rfl rfl ⟨⟨rfl, rfl, rfl⟩, ⟨rfl, rfl, rfl⟩, trivial⟩ (by kernel_rfl) (fun ext => ?_))
   refine TL.append hF 3 rfl rfl rfl ho1 (row_own (cs := [.int .i64 (-1)]) (e := 3) (by simp)).src rfl rfl (by simp [Value.oneCell']) (by omega) (by omega) rfl (fun p cp gp hp => ?_)
   rw [← intC_app] at hp
   refine TL.finK ⟨⟨_, rfl, _, _, [(20, _, some 4)], rfl, rfl, ⟨⟨rfl, rfl, rfl⟩, trivial⟩, fun ext => TL.load hF rfl (own_mem (cs := #[.slice a1 i c1, .slice a2 i c2]) (e := 101) (fz := (0, 0)) (by simp) rfl) rfl TL.fin⟩, trivial⟩ ?_
   refine DH.pure (i := 8) [(3, _, none)] rfl rfl rfl rfl ⟨⟨rfl, by kernel_rfl⟩, trivial⟩ (fun _ ext => TL.fieldAddr hF rfl rfl TL.fin) ?_
   refine DH.heavy 7 [(21, _, some 5), (22, _, some 6)] (by kernel_rfl) (by kernel_rfl) (by kernel_rfl) (by kernel_rfl) rfl rfl rfl rfl ⟨⟨rfl, rfl, rfl⟩, ⟨rfl, rfl, rfl⟩, trivial⟩ (by kernel_rfl) (fun ext => ?_)
   refine TL.append hF 4 rfl rfl rfl ho2 (row_own (cs := [.int .i64 (-1)]) (e := 3) (by simp)).src rfl rfl (by simp [Value.oneCell']) (by omega) (by omega) rfl (fun q cq gq hq => ?_)
   rw [← intC_app] at hq
   refine TL.finD ?_
   refine DH.done [(23, _), (24, _), (19, _), (18, _), (22, _), (21, _), (20, _), (17, _), (16, _)] [_, _, _] (by kernel_rfl) (by kernel_rfl) (by kernel_rfl) (by kernel_rfl) rfl rfl ?_
   refine TL.storeI hF 2 rfl rfl rfl rfl (by simp) ?_
   refine TL.fieldAddr hF rfl rfl ?_
   refine TL.storeI hF 2 rfl rfl rfl rfl (by simp) ?_
   refine TL.nil ?_
   refine TQ.block_n ?_
   refine TQ.then_n ?_
   refine T.region ?_
   refine TL.move hF rfl rfl ?_
   refine TL.add hF rfl rfl (by omega) (by omega) rfl ?_
   refine TL.assign hF rfl rfl ?_
   refine TL.nil ?_
   refine TQ.pop ?_
   refine TQ.pop ?_
   exact TQ.round (i + 1, p, cp, gp, q, cq, gq) ⟨by omega, hp, hq⟩ (by dsimp only; omega) ⟨rfl, rfl, rfl, rfl, rfl, trivial⟩ rfl
 ·refine T.exit ?_
  refine TQ.then_x ?_
  refine TQ.then_x ?_
  refine TQ.block_x ?_
  refine TQ.then_n ?_
  refine T.seq ?_
  refine T.seq ?_
  refine T.region ?_
  refine TL.assign hF rfl rfl ?_
  refine TL.nil ?_
  refine TQ.then_n ?_
  refine T.block ?_
  have hin : i = qs.length := by have h : ¬ (i : Int) < (qs.length : Int) := ht13; omega
  subst hin
  refine T.heap (η' := [] ++ ([(b3, Obj.cells #[.slice a1 qs.length c1, .slice a2 qs.length c2] 101 (0, 0))] :: g1 :: g2 :: η)) rfl ?_
  refine T.loop (ι := Nat × Seg × Seg) (fun z => match z with | (k, g1, g2) => k ≤ qs.length ∧ OSl 3 1 (.slice a1 qs.length c1) qs.length (intC qs.length (runM (EP (tx qs)) qs.length k).nx) g1 ∧ OSl 3 1 (.slice a2 qs.length c2) qs.length (intC qs.length (runM (EP (tx qs)) qs.length k).mate) g2) (fun z => match z with | (k, g1, g2) => [(0, .slice a qs.length c), (2, .int .i64 0), (3, ptr b3), (4, .int .i64 ((qs.length : Int) - ((numM (EP (tx qs)) qs.length k : Nat) : Int))), (6, .int .i64 (k : Int))]) (fun z => match z with | (k, g1, g2) => [(b3, Obj.cells #[.slice a1 qs.length c1, .slice a2 qs.length c2] 101 (0, 0))] :: g1 :: g2 :: η) (fun z => qs.length - z.1) (0, g1, g2) ⟨Nat.zero_le _, ho1, ho2⟩ ⟨rfl, rfl, rfl, congrArg (fun z => some (Value.int .i64 z)) (by simp [numM, cnt]), rfl, trivial⟩ rfl ?_
  clear ho1 ho2 g1 g2
  rintro ⟨k, g1, g2⟩ ⟨hk, ho1, ho2⟩
  refine T.seq ?_
  refine T.seq ?_
  refine T.region ?_
  refine TL.move hF rfl rfl ?_
  refine TL.move hF rfl rfl ?_
  refine TL.len hF rfl rfl ?_
  refine TL.bin hF rfl rfl rfl rfl ?_
  refine TL.nil ?_
  refine TQ.then_n ?_
  first | refine T.cond_d rfl (fun ht29 => ?_) (fun ht29 => ?_) | refine T.cond _ rfl (fun ht29 => ?_) (fun ht29 => ?_)
  ·refine T.skip ?_
   refine TQ.then_n ?_
   refine T.seq ?_
   refine T.block ?_
   refine T.seq ?_
   have hkn : k < qs.length := by have h : (k : Int) < (qs.length : Int) := ht29; omega
   obtain ⟨nb, cN, rfl, rfl, hN⟩ := OIs.of ho1 (by omega)
   obtain ⟨bb, cB, rfl, rfl, hB⟩ := OIs.of ho2 (by omega)
   clear ho1 ho2
   refine T.drawH 6 mixed ?_
   refine DH.pure (i := 0) [(0, _, none)] rfl rfl rfl rfl ⟨⟨rfl, by kernel_rfl⟩, trivial⟩ (fun _ ext => TL.move hF rfl rfl TL.fin) ?_
   refine DH.read (i := 1) [(3, _, none)] rfl rfl rfl rfl ⟨⟨rfl, by kernel_rfl⟩, trivial⟩ (fun ext => TL.loadA hF [.slice (some ⟨nb, 0, none⟩) qs.length c1, .slice (some ⟨bb, 0, none⟩) qs.length c2] rfl rfl (own_listM (e := 101) (fz := (0, 0)) (cs := [.slice (some ⟨nb, 0, none⟩) qs.length c1, .slice (some ⟨bb, 0, none⟩) qs.length c2]) (by simp)) rfl TL.fin) ?_
   refine DH.pure (i := 2) [(6, _, none)] rfl rfl rfl rfl ⟨⟨rfl, by kernel_rfl⟩, trivial⟩ (fun _ ext => TL.move hF rfl rfl TL.fin) ?_
   refine DH.pure (i := 3) [(0, _, none)] rfl rfl rfl rfl ⟨⟨rfl, by kernel_rfl⟩, trivial⟩ (fun _ ext => TL.move hF rfl rfl TL.fin) ?_
   refine DH.pure (i := 4) [(35, _, some 3)] rfl rfl rfl rfl ⟨⟨rfl, rfl, rfl⟩, trivial⟩ (fun _ ext => TL.len hF rfl rfl TL.fin) ?_
   refine DH.k1 (by kernel_rfl) (by kernel_rfl) (by kernel_rfl) (by kernel_rfl) (HBK.mk (h := 5) [1] [(36, _, some 4)] rfl rfl rfl ⟨⟨rfl, rfl, rfl⟩, trivial⟩ (by kernel_rfl) (fun ext => ?_))
   refine TL.makeSlice hF rfl rfl rfl (by omega) (by omega) rfl (fun b37 => ?_)
   rw [rowC_false]
   refine TL.finK ⟨⟨_, rfl, _, _, [(3, _, none)], rfl, rfl, ⟨⟨rfl, by kernel_rfl⟩, trivial⟩, fun ext => TL.loadA hF [.slice (some ⟨nb, 0, none⟩) qs.length c1, .slice (some ⟨bb, 0, none⟩) qs.length c2] rfl rfl (own_listM (e := 101) (fz := (0, 0)) (cs := [.slice (some ⟨nb, 0, none⟩) qs.length c1, .slice (some ⟨bb, 0, none⟩) qs.length c2]) (by simp)) rfl TL.fin⟩, trivial⟩ ?_
   refine DH.done [(37, _), (36, _), (35, _), (34, _), (33, _), (32, _)] [_] (by kernel_rfl) (by kernel_rfl) (by kernel_rfl) (by kernel_rfl) rfl rfl ?_
   refine TL.pick' [2, 3, 0, 1] [_, _, _, _] rfl rfl rfl ?_
   refine TL.call hF (paired_ref (tr := b37) hx (by omega) hw hw4 hup (qs.length + 1) (i := k) (s := stM (EP (tx qs)) qs.length k) (η := [(b3, Obj.cells #[.slice (some ⟨nb, 0, none⟩) qs.length c1, .slice (some ⟨bb, 0, none⟩) qs.length c2] 101 (0, 0))] :: η) hkn ⟨(runM_ok hk).mate, (runM_ok hk).nx⟩ (Nat.lt_succ_of_le (unt_le _ _)) hN hB) rfl rfl ?_
   clear hN hB
   rintro _ _ ⟨rfl, cN, cB, hN, hB, rfl⟩
   have hns : numM (EP (tx qs)) qs.length (k + 1) = numM (EP (tx qs)) qs.length k + if okM (EP (tx qs)) qs.length k = true then 1 else 0 := cnt_succ
   have hnl : numM (EP (tx qs)) qs.length k ≤ qs.length := by have h := cnt_le (n := k) (p := okM (EP (tx qs)) qs.length); unfold numM; omega
   refine TL.nil ?_
   refine TQ.then_n ?_
   refine T.cond _ rfl (fun ht38 => ?_) (fun ht38 => ?_)
   ·refine T.region ?_
    refine TL.move hF rfl rfl ?_
    refine TL.sub hF rfl rfl (by omega) (by omega) rfl ?_
    refine TL.assign hF rfl rfl ?_
    refine TL.nil ?_
    refine TQ.block_n ?_
    refine TQ.then_n ?_
    refine T.region ?_
    refine TL.move hF rfl rfl ?_
    refine TL.add hF rfl rfl (by omega) (by omega) rfl ?_
    refine TL.assign hF rfl rfl ?_
    refine TL.nil ?_
    refine TQ.pick [3, 0, 1] [_, _, _, _] rfl rfl rfl ?_
    refine TQ.round (k + 1, cseg nb cN, cseg bb cB) ⟨by omega, hN, hB⟩ (by dsimp only; omega) ⟨rfl, rfl, rfl, congrArg (fun z => some (Value.int .i64 z)) ?_, rfl, trivial⟩ rfl
    rw [if_pos (show okM (EP (tx qs)) qs.length k = true from ht38)] at hns
    rw [hns]; omega
   ·refine T.skip ?_
    refine TQ.block_n ?_
    refine TQ.then_n ?_
    refine T.region ?_
    refine TL.move hF rfl rfl ?_
    refine TL.add hF rfl rfl (by omega) (by omega) rfl ?_
    refine TL.assign hF rfl rfl ?_
    refine TL.nil ?_
    refine TQ.pick [3, 0, 1] [_, _, _, _] rfl rfl rfl ?_
    refine TQ.round (k + 1, cseg nb cN, cseg bb cB) ⟨by omega, hN, hB⟩ (by dsimp only; omega) ⟨rfl, rfl, rfl, congrArg (fun z => some (Value.int .i64 z)) ?_, rfl, trivial⟩ rfl
    rw [if_neg (show ¬ okM (EP (tx qs)) qs.length k = true by rw [show okM (EP (tx qs)) qs.length k = false from ht38]; decide)] at hns
    rw [hns]; omega
  ·refine T.exit ?_
   refine TQ.then_x ?_
   refine TQ.then_x ?_
   refine TQ.block_x ?_
   refine TQ.then_n ?_
   refine T.seq ?_
   refine T.region ?_
   refine TL.move hF rfl rfl ?_
   refine TL.assign hF rfl rfl ?_
   refine TL.nil ?_
   refine TQ.then_n ?_
   refine T.ret ?_
   refine TQ.pop ?_
   refine TQ.pop ?_
   refine TQ.pop ?_
   refine TQ.rets [2] _ rfl rfl rfl ?_
   have hkn : k = qs.length := by have h : ¬ (k : Int) < (qs.length : Int) := ht29; omega
   rw [hkn]; exact ⟨rfl, rfl⟩
end Go.Proofs.YteimjjpigohnhaaGreat
/- Chains and widest times: what the law says of them. -/
namespace Go.Proofs.YteimjjpigohnhaaGreat
open Go.Sl
variable {S : Nat → Prop} {w0 : World} {η : Heap}
set_option maxRecDepth 8000
theorem _root_.Go.Proofs.YteimjjpigohnhaaGreat.L3.frz {S' : Nat → Prop} {w1 : World} {ηr : Heap} {a : Option Addr} {gs : List GL} (h : L3 S w0 ηr a gs) (hz : Frz S S' w0 w1 ηr) : L3 S' w1 [] a gs := ⟨h.row.frz hz, fun p hp => (h.item p hp).frz hz⟩
theorem _root_.Go.Proofs.YteimjjpigohnhaaGreat.L3.old {S' : Nat → Prop} {w1 : World} {ηr : Heap} {a : Option Addr} {gs : List GL} (h : L3 S w0 [] a gs) (hz : Frz S S' w0 w1 ηr) : L3 S' w1 [] a gs := ⟨h.row.old hz, fun p hp => (h.item p hp).old hz⟩
theorem _root_.Go.Proofs.YteimjjpigohnhaaGreat.L3.ro {η' : Heap} {a : Option Addr} {gs : List GL} (h : L3 S w0 [] a gs) : L3 S w0 η' a gs := h.up (fun _ hx => by simp at hx)
theorem L3.it {a : Option Addr} {gs : List GL} (h : L3 S w0 η a gs) {i : Nat} (hi : i < gs.length) : LL S w0 η gs[i].1 gs[i].2.1 := h.item _ (List.getElem_mem hi)
theorem tg_len (gs : List GL) : (tg gs).length = gs.length := by simp [tg]
theorem tx_catG (gs : List GL) : tx (catG gs) = (tg gs).flatten := by
 unfold tx catG tg tx
 rw [List.map_flatMap, List.flatMap_def]
theorem EP_up {w : Nat} {l : List Tm} (ho : Ord l) (hw : ∀ x ∈ l, x.length = w) (i j : Nat) (hi : i < l.length) (hj : j < l.length) (h : EP l i j = true) : i < j := EP_lt ho hw hi hj h
theorem chains_mem {l : List Tm} {m : Mt} {k : Nat} {x : List Tm} (h : x ∈ chainsN l m k) : ∃ s, s < k ∧ x = chainT l m s := by
 obtain ⟨s, hs, rfl⟩ := List.mem_map.1 h
 exact ⟨s, List.mem_range.1 (List.mem_filter.1 hs).1, rfl⟩
theorem among_wid {l : List Tm} : ((widT l).all fun x => l.any fun y => decide (x = y)) = true :=
 List.all_eq_true.2 fun x hx => List.any_eq_true.2 ⟨x, wid_mem hx, decide_eq_true rfl⟩
theorem sort_flat {w : Nat} {l M : List Tm} (ho : Ord l) (hw : ∀ x ∈ l, x.length = w) (h : M.Perm l) : sortT M = l :=
 ord_ext (ord_sortT fun x hx => hw x (h.mem_iff.1 hx)) ho fun x => by rw [mem_sortT]; exact h.mem_iff
set_option maxHeartbeats 2000000 in
theorem OrderChains_fn {a : Option Addr} {ps : List HL} {c : Nat} (hx : LL S w0 [] a ps) (hl : ps.length < 2 ^ 63) (hlx : ∀ p ∈ ps, p.2.1.length < 2 ^ 63) :
  Rt Tryz.prog 7 [.slice a ps.length c].toArray S w0 [] (fun v _ => v = .bool true) := by
 have hF := open_wide
 refine Rt.of (fn := Tryz.f7) Tryz.func7 rfl rfl ?_
 refine T.seq ?_
 refine T.region ?_
 refine TL.assign hF rfl rfl ?_
 refine TL.nil ?_
 refine TQ.then_n ?_
 refine T.seq ?_
 refine T.seq ?_
 refine T.region ?_
 refine TL.move hF rfl rfl ?_
 refine TL.len hF rfl rfl ?_
 refine TL.bin hF rfl rfl rfl rfl ?_
 refine TL.nil ?_
 refine TQ.then_n ?_
 first | refine T.cond_d rfl (fun ht15 => ?_) (fun ht15 => ?_) | refine T.cond _ rfl (fun ht15 => ?_) (fun ht15 => ?_)
 ·refine T.seq ?_
  refine T.region ?_
  refine TL.call hF ordered_fn rfl rfl ?_
  rintro _ _ rfl
  refine TL.assign hF rfl rfl ?_
  refine TL.nil ?_
  refine TQ.then_n ?_
  refine T.ret ?_
  refine TQ.then_r ?_
  refine TQ.rets [2] _ rfl rfl rfl ?_
  rfl
 ·refine T.skip ?_
  refine TQ.then_n ?_
  refine T.seq ?_
  refine T.region ?_
  refine TL.move hF rfl rfl ?_
  have hb := Back.refl S w0
  refine TL.call hF (Chains_prog hx (by omega) hlx) rfl rfl ?_
  rintro _ _ ⟨a3, c3, gs, segs, rfl, htg, h3, rfl⟩
  refine TL.freeze (segs) rfl (fun S1 w1 hz1 => ?_)
  replace hb := hb.frz hz1
  replace hx := hx.old hz1
  replace h3 := h3.frz hz1
  refine TL.move hF rfl rfl ?_
  refine TL.extract hF rfl rfl rfl ?_
  refine TL.extract hF rfl rfl rfl ?_
  refine TL.assign hF rfl rfl ?_
  refine TL.assign hF rfl rfl ?_
  refine TL.nil ?_
  refine TQ.then_n ?_
  refine T.seq ?_
  refine T.region ?_
  refine TL.move hF rfl rfl ?_
  refine TL.call hF (Widest_prog hx (by omega) hlx (fun _ => rchM_safe)) rfl rfl ?_
  rintro _ _ ⟨a5, c5, ws, segs, rfl, htw, h5, rfl⟩
  refine TL.freeze (segs) rfl (fun S2 w2 hz2 => ?_)
  replace hb := hb.frz hz2
  replace hx := hx.old hz2
  replace h3 := h3.old hz2
  replace h5 := h5.frz hz2
  refine TL.move hF rfl rfl ?_
  refine TL.extract hF rfl rfl rfl ?_
  refine TL.extract hF rfl rfl rfl ?_
  refine TL.assign hF rfl rfl ?_
  refine TL.assign hF rfl rfl ?_
  refine TL.nil ?_
  refine TQ.then_n ?_
  refine T.seq ?_
  refine T.seq ?_
  refine T.region ?_
  refine TL.move hF rfl rfl ?_
  refine TL.callV hF (Times_fn hx.ro (by omega) hlx) rfl rfl ?_
  refine TL.assign hF rfl rfl ?_
  refine TL.nil ?_
  refine TQ.then_n ?_
  refine T.seq ?_
  refine T.region ?_
  refine TL.move hF rfl rfl ?_
  refine TL.bin hF rfl rfl rfl rfl ?_
  refine TL.nil ?_
  refine TQ.then_n ?_
  refine T.cond _ rfl (fun ht30 => ?_) (fun ht30 => ?_)
  ·refine T.seq ?_
   refine T.region ?_
   have hE : timesE (tx ps) ≠ 0 := by simpa using ht30
   have e3 : chainsS (tx ps) = ([], timesE (tx ps)) := by unfold chainsS; rw [if_neg hE]
   have e5 : widestS (tx ps) = ([], timesE (tx ps)) := by unfold widestS; rw [if_neg hE]
   rw [e3] at htg ⊢
   rw [e5] at htw ⊢
   have hg0 : gs.length = 0 := by rw [← tg_len, htg]; rfl
   have hw0 : ws.length = 0 := by rw [← tx_len, htw]; rfl
   refine TL.move hF rfl rfl ?_
   refine TL.move hF rfl rfl ?_
   refine TL.bin hF rfl rfl rfl rfl ?_
   refine TL.move hF rfl rfl ?_
   refine TL.on rfl rfl rfl (by simp [*]) ?_
   refine TL.move hF rfl rfl ?_
   refine TL.on rfl rfl rfl (by simp [*]) ?_
   refine TL.move hF rfl rfl ?_
   refine TL.on rfl rfl rfl (by simp [*]) ?_
   refine TL.bin hF rfl rfl rfl rfl ?_
   refine TL.pickT hF rfl (by simp [*]) rfl rfl ?_
   refine TL.move hF rfl rfl ?_
   refine TL.on rfl rfl rfl (by simp [*]) ?_
   refine TL.move hF rfl rfl ?_
   refine TL.on rfl rfl rfl (by simp [*]) ?_
   refine TL.len hF rfl rfl ?_
   refine TL.on rfl rfl rfl (by simp [*]) ?_
   refine TL.bin hF rfl rfl rfl rfl ?_
   refine TL.pickT hF rfl (by simp [*]) rfl rfl ?_
   refine TL.move hF rfl rfl ?_
   refine TL.on rfl rfl rfl (by simp [*]) ?_
   refine TL.move hF rfl rfl ?_
   refine TL.on rfl rfl rfl (by simp [*]) ?_
   refine TL.len hF rfl rfl ?_
   refine TL.on rfl rfl rfl (by simp [*]) ?_
   refine TL.bin hF rfl rfl rfl rfl ?_
   refine TL.pickT hF rfl (by simp [*]) rfl rfl ?_
   refine TL.move hF rfl rfl ?_
   refine TL.on rfl rfl rfl (by simp [*]) ?_
   refine TL.call hF ordered_fn rfl rfl ?_
   rintro _ _ rfl
   refine TL.pickT hF rfl (by simp [*]) rfl rfl ?_
   refine TL.assign hF rfl rfl ?_
   refine TL.nil ?_
   refine TQ.then_n ?_
   refine T.ret ?_
   refine TQ.then_r ?_
   exact TQ.retsF [2] _ hb rfl rfl rfl (fun _ => rfl)
  ·refine T.skip ?_
   refine TQ.then_n ?_
   refine T.seq ?_
   refine T.region ?_
   refine TL.move hF rfl rfl ?_
   have hE : timesE (tx ps) = 0 := by simpa using ht30
   obtain ⟨hl2, hfit⟩ := times_ok hE
   rw [tx_len] at hl2
   obtain ⟨w, hw4, hwid⟩ := fit_wid hfit
   have hpw : ∀ p ∈ ps, p.2.1.length = w := fun p hp => hwid _ (List.mem_map_of_mem hp)
   have e3 : chainsS (tx ps) = (chainsT (tx ps), 0) := by unfold chainsS; rw [if_pos hE]
   have e5 : widestS (tx ps) = (widT (sortT (tx ps)), 0) := by unfold widestS; rw [if_pos hE]
   have e30 : (chainsS (tx ps)).2 = 0 := by rw [e3]
   have e50 : (widestS (tx ps)).2 = 0 := by rw [e5]
   rw [e30, e50]
   rw [e3] at htg
   rw [e5] at htw
   refine TL.call hF (Sorted_fn hx (by omega) (fun p hp => by have := hpw p hp; omega) hpw) rfl rfl ?_
   rintro _ _ ⟨a8, c8, qs, segs, rfl, t8, rfl, h8, _⟩
   refine TL.freeze (segs) rfl (fun S3 w3 hz3 => ?_)
   replace hb := hb.frz hz3
   replace hx := hx.old hz3
   replace h3 := h3.old hz3
   replace h5 := h5.old hz3
   replace h8 := h8.frz hz3
   have hord : Ord (sortT (tx ps)) := ord_sortT hwid
   have hLw : ∀ x ∈ (sortT (tx ps)), x.length = w := fun x hx2 => hwid x (mem_sortT.1 hx2)
   have hLl : (sortT (tx ps)).length = qs.length := by rw [← t8, tx_len]
   have hql : qs.length ≤ 200 := by have := sortT_len (tx ps); rw [tx_len] at this; omega
   have hqw : ∀ p ∈ qs, p.2.1.length = w := fun p hp => hLw _ (t8 ▸ List.mem_map_of_mem hp)
   have hnum := chainsN_length (l := (sortT (tx ps)))
   have hwnum := widT_len hord hLw
   have hflat := chainsN_flat hord hLw
   have htg : tg gs = chainsN (sortT (tx ps)) (linkM (sortT (tx ps))) (sortT (tx ps)).length := htg
   rw [← htg] at hflat hnum
   rw [tg_len] at hnum
   have htw : tx ws = widT (sortT (tx ps)) := htw
   rw [← htw, tx_len] at hwnum
   have hgmem : ∀ g ∈ gs, ∃ s, s < (sortT (tx ps)).length ∧ tx g.2.1 = chainT (sortT (tx ps)) (linkM (sortT (tx ps))) s := fun g hg => chains_mem (htg ▸ List.mem_map_of_mem hg)
   have hgt : ∀ g ∈ gs, ∀ x ∈ tx g.2.1, x ∈ (sortT (tx ps)) := fun g hg x hx2 => hflat.mem_iff.1 (List.mem_flatten.2 ⟨_, List.mem_map_of_mem hg, hx2⟩)
   have hgw : ∀ g ∈ gs, ∀ p ∈ g.2.1, p.2.1.length = w := fun g hg p hp => hLw _ (hgt g hg _ (List.mem_map_of_mem hp))
   have hcl : (catG gs).length = (sortT (tx ps)).length := by rw [← tx_len, tx_catG]; exact hflat.length_eq
   have hglen : gs.length ≤ 200 := by omega
   have hg1 : ∀ g ∈ gs, g.2.1.length ≤ 200 ∧ 0 < g.2.1.length := fun g hg => by
    obtain ⟨s, hs, he⟩ := hgmem g hg
    have h1 := chainT_ne (l := (sortT (tx ps))) hs
    rw [← he, tx_len] at h1
    refine ⟨?_, h1⟩
    have h2 := hflat.length_eq
    have h5 : tx g.2.1 ∈ tg gs := List.mem_map_of_mem hg
    have h4 : (tx g.2.1).length ≤ (tg gs).flatten.length := (List.sublist_flatten_of_mem h5).length_le
    rw [tx_len] at h4
    omega
   refine TL.assign hF rfl rfl ?_
   refine TL.nil ?_
   refine TQ.then_n ?_
   refine T.seq ?_
   refine T.region ?_
   refine TL.buildSlice hF rfl (cs := #[]) (e := 22) (fun w => by kernel_rfl) rfl (fun b54 => ?_)
   refine TL.assign hF rfl rfl ?_
   refine TL.nil ?_
   refine TQ.then_n ?_
   refine T.seq ?_
   refine T.seq ?_
   refine T.region ?_
   refine TL.assign hF rfl rfl ?_
   refine TL.nil ?_
   refine TQ.then_n ?_
   refine T.block ?_
   refine T.loop (ι := Nat × Option Addr × Nat × Seg) (fun z => match z with | (i, oa, oc, og) => i ≤ gs.length ∧ OSl 22 1 (.slice oa (catG (gs.take i)).length oc) (catG (gs.take i)).length ((catG (gs.take i)).map hc) og) (fun z => match z with | (i, oa, oc, og) => [(2, .bool false), (3, .slice a3 gs.length c3), (4, .int .i64 0), (5, .slice a5 ws.length c5), (6, .int .i64 0), (8, .slice a8 qs.length c8), (9, .slice oa (catG (gs.take i)).length oc), (10, .int .i64 (i : Int))]) (fun z => match z with | (i, oa, oc, og) => [og]) (fun z => gs.length - z.1) (0, some ⟨b54, 0, none⟩, 0, _) ⟨Nat.zero_le _, osl_empty⟩ ⟨rfl, rfl, rfl, rfl, rfl, rfl, rfl, rfl, trivial⟩ rfl ?_
   rintro ⟨i, oa, oc, og⟩ ⟨hi, ho⟩
   refine T.seq ?_
   refine T.seq ?_
   refine T.region ?_
   refine TL.move hF rfl rfl ?_
   refine TL.move hF rfl rfl ?_
   refine TL.len hF rfl rfl ?_
   refine TL.bin hF rfl rfl rfl rfl ?_
   refine TL.nil ?_
   refine TQ.then_n ?_
   first | refine T.cond_d rfl (fun ht58 => ?_) (fun ht58 => ?_) | refine T.cond _ rfl (fun ht58 => ?_) (fun ht58 => ?_)
   ·refine T.skip ?_
    refine TQ.then_n ?_
    refine T.seq ?_
    refine T.block ?_
    refine T.seq ?_
    refine T.seq ?_
    refine T.region ?_
    refine TL.assign hF rfl rfl ?_
    refine TL.nil ?_
    refine TQ.then_n ?_
    refine T.block ?_
    have hig : i < gs.length := by have h : (i : Int) < (gs.length : Int) := ht58; omega
    have hgi := List.getElem_mem hig
    obtain ⟨hc200, hcpos⟩ := hg1 _ hgi
    obtain ⟨s, hs, hsx⟩ := hgmem _ hgi
    have hgl : LL _ _ [] gs[i].1 gs[i].2.1 := h3.it hig
    refine T.loop (ι := Nat) (fun k => k ≤ gs[i].2.1.length) (fun k => [(2, .bool false), (3, .slice a3 gs.length c3), (4, .int .i64 0), (5, .slice a5 ws.length c5), (6, .int .i64 0), (8, .slice a8 qs.length c8), (9, .slice oa (catG (gs.take i)).length oc), (10, .int .i64 (i : Int)), (11, .int .i64 (k : Int))]) (fun _ => [og]) (fun k => gs[i].2.1.length - k) 0 (Nat.zero_le _) ⟨rfl, rfl, rfl, rfl, rfl, rfl, rfl, rfl, rfl, trivial⟩ rfl ?_
    intro k hk
    refine T.seq ?_
    refine T.seq ?_
    refine T.region ?_
    refine TL.move hF rfl rfl ?_
    refine TL.move hF rfl rfl ?_
    refine TL.move hF rfl rfl ?_
    refine TL.indexAddr hF rfl rfl (h3.ad (i := i) hig) (by omega) (by omega) rfl ?_
    refine TL.load hF rfl (h3.ro.at (i := i) hig) rfl ?_
    refine TL.len hF rfl rfl ?_
    refine TL.bin hF rfl rfl rfl rfl ?_
    refine TL.nil ?_
    refine TQ.then_n ?_
    first | refine T.cond_d rfl (fun ht67 => ?_) (fun ht67 => ?_) | refine T.cond _ rfl (fun ht67 => ?_) (fun ht67 => ?_)
    ·refine T.skip ?_
     refine TQ.then_n ?_
     refine T.seq ?_
     refine T.block ?_
     refine T.seq ?_
     have hkl : k < gs[i].2.1.length := by have h : (k : Int) < (gs[i].2.1.length : Int) := ht67; omega
     have hkw : (gs[i].2.1[k]).2.1.length = w := hgw _ hgi _ (List.getElem_mem hkl)
     have hq0 : 0 < qs.length := by omega
     have hq0w : (qs[0]).2.1.length = w := hqw _ (List.getElem_mem hq0)
     have hup : 0 < k → tle (gs[i].2.1[k - 1]'(by omega)).2.1 (gs[i].2.1[k]).2.1 = true ∧ (gs[i].2.1[k - 1]'(by omega)).2.1 ≠ (gs[i].2.1[k]).2.1 := fun hk0 => by
      have h := chainT_up (l := (sortT (tx ps))) (i := s) (k := k - 1) (by rw [← hsx, tx_len]; omega) hs hord hLw
      simp only [← hsx, show k - 1 + 1 = k by omega] at h
      rw [tx_get (by omega), tx_get (by omega)] at h
      exact h
     have hkw1 : 0 < k → (gs[i].2.1[k - 1]'(by omega)).2.1.length = w := fun hk0 => hgw _ hgi _ (List.getElem_mem (by omega))
     by_cases hk0 : 0 < k
     ·refine T.draw ?_
      refine DR.stepV [_] rfl [(8, _, none)] rfl rfl ⟨⟨rfl, by kernel_rfl⟩, trivial⟩ (fun ext => TL.move hF rfl rfl TL.fin) ?_
      refine DR.stepV [_, _] rfl [(70, _, some 0)] rfl rfl ⟨⟨rfl, rfl, rfl⟩, trivial⟩ (fun ext => TL.len hF rfl rfl TL.fin) ?_
      refine DR.stepV [_, _, _] rfl [(71, _, some 1)] rfl rfl ⟨⟨rfl, rfl, rfl⟩, trivial⟩ (fun ext => TL.bin hF rfl rfl rfl rfl TL.fin) ?_
      refine DR.stepV [_, _, _, _] rfl [(72, _, some 2)] rfl rfl ⟨⟨rfl, rfl, rfl⟩, trivial⟩ (fun ext => TL.move hF rfl rfl TL.fin) ?_
      refine DR.stepV [_, _, _, _, _] rfl [(3, _, none), (73, _, some 3)] rfl rfl ⟨⟨rfl, by kernel_rfl⟩, ⟨rfl, rfl, rfl⟩, trivial⟩ (fun ext => TL.on rfl rfl rfl (decide_eq_false (by omega)) <| TL.move hF rfl rfl TL.fin) ?_
      refine DR.stepV [_, _, _, _, _, _] rfl [(10, _, none), (73, _, some 3)] rfl rfl ⟨⟨rfl, by kernel_rfl⟩, ⟨rfl, rfl, rfl⟩, trivial⟩ (fun ext => TL.on rfl rfl rfl (decide_eq_false (by omega)) <| TL.move hF rfl rfl TL.fin) ?_
      refine DR.stepV [_, _, _, _, _, _, _] rfl [(74, _, some 4), (75, _, some 5), (73, _, some 3)] rfl rfl ⟨⟨rfl, rfl, rfl⟩, ⟨rfl, rfl, rfl⟩, ⟨rfl, rfl, rfl⟩, trivial⟩ (fun ext => TL.on rfl rfl rfl (decide_eq_false (by omega)) <| TL.indexAddr hF rfl rfl (h3.ad (i := i) hig) (by omega) (by omega) rfl TL.fin) ?_
      refine DR.stepV [_, _, _, _, _, _, _, _] rfl [(76, _, some 6), (73, _, some 3)] rfl rfl ⟨⟨rfl, rfl, rfl⟩, ⟨rfl, rfl, rfl⟩, trivial⟩ (fun ext => TL.on rfl rfl rfl (decide_eq_false (by omega)) <| TL.load hF rfl (h3.ro.at (i := i) hig) rfl TL.fin) ?_
      refine DR.stepV [_, _, _, _, _, _, _, _, _] rfl [(11, _, none), (73, _, some 3)] rfl rfl ⟨⟨rfl, by kernel_rfl⟩, ⟨rfl, rfl, rfl⟩, trivial⟩ (fun ext => TL.on rfl rfl rfl (decide_eq_false (by omega)) <| TL.move hF rfl rfl TL.fin) ?_
      refine DR.stepV [_, _, _, _, _, _, _, _, _, _] rfl [(77, _, some 7), (78, _, some 8), (73, _, some 3)] rfl rfl ⟨⟨rfl, rfl, rfl⟩, ⟨rfl, rfl, rfl⟩, ⟨rfl, rfl, rfl⟩, trivial⟩ (fun ext => TL.on rfl rfl rfl (decide_eq_false (by omega)) <| TL.indexAddr hF rfl rfl (hgl.ad (i := k) (by omega)) (by omega) (by omega) rfl TL.fin) ?_
      refine DR.stepV [_, _, _, _, _, _, _, _, _, _, _] rfl [(79, _, some 9), (73, _, some 3)] rfl rfl ⟨⟨rfl, rfl, rfl⟩, ⟨rfl, rfl, rfl⟩, trivial⟩ (fun ext => TL.on rfl rfl rfl (decide_eq_false (by omega)) <| TL.load hF rfl (hgl.ro.at (i := k) (by omega)) rfl TL.fin) ?_
      refine DR.stepV [_, _, _, _, _, _, _, _, _, _, _, _] rfl [(80, _, some 10), (73, _, some 3)] rfl rfl ⟨⟨rfl, rfl, rfl⟩, ⟨rfl, rfl, rfl⟩, trivial⟩ (fun ext => TL.on rfl rfl rfl (decide_eq_false (by omega)) <| TL.len hF rfl rfl TL.fin) ?_
      refine DR.stepV [_, _, _, _, _, _, _, _, _, _, _, _, _] rfl [(8, _, none), (73, _, some 3)] rfl rfl ⟨⟨rfl, by kernel_rfl⟩, ⟨rfl, rfl, rfl⟩, trivial⟩ (fun ext => TL.on rfl rfl rfl (decide_eq_false (by omega)) <| TL.move hF rfl rfl TL.fin) ?_
      refine DR.stepV [_, _, _, _, _, _, _, _, _, _, _, _, _, _] rfl [(82, _, some 12), (73, _, some 3)] rfl rfl ⟨⟨rfl, rfl, rfl⟩, ⟨rfl, rfl, rfl⟩, trivial⟩ (fun ext => TL.on rfl rfl rfl (decide_eq_false (by omega)) <| TL.indexAddr hF rfl rfl (h8.ad (i := 0) hq0) (by omega) (by omega) rfl TL.fin) ?_
      refine DR.stepV [_, _, _, _, _, _, _, _, _, _, _, _, _, _, _] rfl [(83, _, some 13), (73, _, some 3)] rfl rfl ⟨⟨rfl, rfl, rfl⟩, ⟨rfl, rfl, rfl⟩, trivial⟩ (fun ext => TL.on rfl rfl rfl (decide_eq_false (by omega)) <| TL.load hF rfl (h8.ro.at (i := 0) hq0) rfl TL.fin) ?_
      refine DR.stepV [_, _, _, _, _, _, _, _, _, _, _, _, _, _, _, _] rfl [(84, _, some 14), (73, _, some 3)] rfl rfl ⟨⟨rfl, rfl, rfl⟩, ⟨rfl, rfl, rfl⟩, trivial⟩ (fun ext => TL.on rfl rfl rfl (decide_eq_false (by omega)) <| TL.len hF rfl rfl TL.fin) ?_
      refine DR.stepV [_, _, _, _, _, _, _, _, _, _, _, _, _, _, _, _, _] rfl [(81, _, some 11), (85, _, some 15), (73, _, some 3)] rfl rfl ⟨⟨rfl, rfl, rfl⟩, ⟨rfl, rfl, rfl⟩, ⟨rfl, rfl, rfl⟩, trivial⟩ (fun ext => TL.on rfl rfl rfl (decide_eq_false (by omega)) <| TL.bin hF rfl rfl rfl rfl TL.fin) ?_
      refine DR.stepV [_, _, _, _, _, _, _, _, _, _, _, _, _, _, _, _, _, _] rfl [(73, _, some 3), (86, _, some 16)] rfl rfl ⟨⟨rfl, rfl, rfl⟩, ⟨rfl, rfl, rfl⟩, trivial⟩ (fun ext => TL.pickF hF rfl (decide_eq_false (by omega)) rfl rfl TL.fin) ?_
      refine DR.stepV [_, _, _, _, _, _, _, _, _, _, _, _, _, _, _, _, _, _, _] rfl [(87, _, some 17)] rfl rfl ⟨⟨rfl, rfl, rfl⟩, trivial⟩ (fun ext => TL.move hF rfl rfl TL.fin) ?_
      refine DR.stepV [_, _, _, _, _, _, _, _, _, _, _, _, _, _, _, _, _, _, _, _] rfl [(11, _, none), (88, _, some 18)] rfl rfl ⟨⟨rfl, by kernel_rfl⟩, ⟨rfl, rfl, rfl⟩, trivial⟩ (fun ext => TL.on rfl rfl rfl (by first | exact decide_eq_false (by omega) | (simp; omega)) <| TL.move hF rfl rfl TL.fin) ?_
      refine DR.stepV [_, _, _, _, _, _, _, _, _, _, _, _, _, _, _, _, _, _, _, _, _] rfl [(89, _, some 19), (88, _, some 18)] rfl rfl ⟨⟨rfl, rfl, rfl⟩, ⟨rfl, rfl, rfl⟩, trivial⟩ (fun ext => TL.on rfl rfl rfl (by first | exact decide_eq_false (by omega) | (simp; omega)) <| TL.bin hF rfl rfl rfl rfl TL.fin) ?_
      refine DR.stepV [_, _, _, _, _, _, _, _, _, _, _, _, _, _, _, _, _, _, _, _, _, _] rfl [(90, _, some 20), (88, _, some 18)] rfl rfl ⟨⟨rfl, rfl, rfl⟩, ⟨rfl, rfl, rfl⟩, trivial⟩ (fun ext => TL.on rfl rfl rfl (by first | exact decide_eq_false (by omega) | (simp; omega)) <| TL.move hF rfl rfl TL.fin) ?_
      refine DR.stepV [_, _, _, _, _, _, _, _, _, _, _, _, _, _, _, _, _, _, _, _, _, _, _] rfl [(3, _, none), (91, _, some 21)] rfl rfl ⟨⟨rfl, by kernel_rfl⟩, ⟨rfl, rfl, rfl⟩, trivial⟩ (fun ext => TL.on rfl rfl rfl (decide_eq_true (by omega)) <| TL.move hF rfl rfl TL.fin) ?_
      refine DR.stepV [_, _, _, _, _, _, _, _, _, _, _, _, _, _, _, _, _, _, _, _, _, _, _, _] rfl [(10, _, none), (91, _, some 21)] rfl rfl ⟨⟨rfl, by kernel_rfl⟩, ⟨rfl, rfl, rfl⟩, trivial⟩ (fun ext => TL.on rfl rfl rfl (decide_eq_true (by omega)) <| TL.move hF rfl rfl TL.fin) ?_
      refine DR.stepV [_, _, _, _, _, _, _, _, _, _, _, _, _, _, _, _, _, _, _, _, _, _, _, _, _] rfl [(92, _, some 22), (93, _, some 23), (91, _, some 21)] rfl rfl ⟨⟨rfl, rfl, rfl⟩, ⟨rfl, rfl, rfl⟩, ⟨rfl, rfl, rfl⟩, trivial⟩ (fun ext => TL.on rfl rfl rfl (decide_eq_true (by omega)) <| TL.indexAddr hF rfl rfl (h3.ad (i := i) hig) (by omega) (by omega) rfl TL.fin) ?_
      refine DR.stepV [_, _, _, _, _, _, _, _, _, _, _, _, _, _, _, _, _, _, _, _, _, _, _, _, _, _] rfl [(94, _, some 24), (91, _, some 21)] rfl rfl ⟨⟨rfl, rfl, rfl⟩, ⟨rfl, rfl, rfl⟩, trivial⟩ (fun ext => TL.on rfl rfl rfl (decide_eq_true (by omega)) <| TL.load hF rfl (h3.ro.at (i := i) hig) rfl TL.fin) ?_
      refine DR.stepV [_, _, _, _, _, _, _, _, _, _, _, _, _, _, _, _, _, _, _, _, _, _, _, _, _, _, _] rfl [(11, _, none), (91, _, some 21)] rfl rfl ⟨⟨rfl, by kernel_rfl⟩, ⟨rfl, rfl, rfl⟩, trivial⟩ (fun ext => TL.on rfl rfl rfl (decide_eq_true (by omega)) <| TL.move hF rfl rfl TL.fin) ?_
      refine DR.stepV [_, _, _, _, _, _, _, _, _, _, _, _, _, _, _, _, _, _, _, _, _, _, _, _, _, _, _, _] rfl [(96, _, some 26), (91, _, some 21)] rfl rfl ⟨⟨rfl, rfl, rfl⟩, ⟨rfl, rfl, rfl⟩, trivial⟩ (fun ext => TL.on rfl rfl rfl (decide_eq_true (by omega)) <| TL.subK hF rfl rfl (r := ((k - 1 : Nat) : Int)) ((wrap_i64 (by omega) (by omega)).trans (by omega)) rfl TL.fin) ?_
      refine DR.stepV [_, _, _, _, _, _, _, _, _, _, _, _, _, _, _, _, _, _, _, _, _, _, _, _, _, _, _, _, _] rfl [(95, _, some 25), (97, _, some 27), (91, _, some 21)] rfl rfl ⟨⟨rfl, rfl, rfl⟩, ⟨rfl, rfl, rfl⟩, ⟨rfl, rfl, rfl⟩, trivial⟩ (fun ext => TL.on rfl rfl rfl (decide_eq_true (by omega)) <| TL.indexAddr hF rfl rfl (hgl.ad (i := k - 1) (by omega)) (by omega) (by omega) rfl TL.fin) ?_
      refine DR.stepV [_, _, _, _, _, _, _, _, _, _, _, _, _, _, _, _, _, _, _, _, _, _, _, _, _, _, _, _, _, _] rfl [(98, _, some 28), (91, _, some 21)] rfl rfl ⟨⟨rfl, rfl, rfl⟩, ⟨rfl, rfl, rfl⟩, trivial⟩ (fun ext => TL.on rfl rfl rfl (decide_eq_true (by omega)) <| TL.load hF rfl (hgl.ro.at (i := k - 1) (by omega)) rfl TL.fin) ?_
      refine DR.stepV [_, _, _, _, _, _, _, _, _, _, _, _, _, _, _, _, _, _, _, _, _, _, _, _, _, _, _, _, _, _, _] rfl [(3, _, none), (91, _, some 21)] rfl rfl ⟨⟨rfl, by kernel_rfl⟩, ⟨rfl, rfl, rfl⟩, trivial⟩ (fun ext => TL.on rfl rfl rfl (decide_eq_true (by omega)) <| TL.move hF rfl rfl TL.fin) ?_
      refine DR.stepV [_, _, _, _, _, _, _, _, _, _, _, _, _, _, _, _, _, _, _, _, _, _, _, _, _, _, _, _, _, _, _, _] rfl [(10, _, none), (91, _, some 21)] rfl rfl ⟨⟨rfl, by kernel_rfl⟩, ⟨rfl, rfl, rfl⟩, trivial⟩ (fun ext => TL.on rfl rfl rfl (decide_eq_true (by omega)) <| TL.move hF rfl rfl TL.fin) ?_
      refine DR.stepV [_, _, _, _, _, _, _, _, _, _, _, _, _, _, _, _, _, _, _, _, _, _, _, _, _, _, _, _, _, _, _, _, _] rfl [(100, _, some 30), (101, _, some 31), (91, _, some 21)] rfl rfl ⟨⟨rfl, rfl, rfl⟩, ⟨rfl, rfl, rfl⟩, ⟨rfl, rfl, rfl⟩, trivial⟩ (fun ext => TL.on rfl rfl rfl (decide_eq_true (by omega)) <| TL.indexAddr hF rfl rfl (h3.ad (i := i) hig) (by omega) (by omega) rfl TL.fin) ?_
      refine DR.stepV [_, _, _, _, _, _, _, _, _, _, _, _, _, _, _, _, _, _, _, _, _, _, _, _, _, _, _, _, _, _, _, _, _, _] rfl [(102, _, some 32), (91, _, some 21)] rfl rfl ⟨⟨rfl, rfl, rfl⟩, ⟨rfl, rfl, rfl⟩, trivial⟩ (fun ext => TL.on rfl rfl rfl (decide_eq_true (by omega)) <| TL.load hF rfl (h3.ro.at (i := i) hig) rfl TL.fin) ?_
      refine DR.stepV [_, _, _, _, _, _, _, _, _, _, _, _, _, _, _, _, _, _, _, _, _, _, _, _, _, _, _, _, _, _, _, _, _, _, _] rfl [(11, _, none), (91, _, some 21)] rfl rfl ⟨⟨rfl, by kernel_rfl⟩, ⟨rfl, rfl, rfl⟩, trivial⟩ (fun ext => TL.on rfl rfl rfl (decide_eq_true (by omega)) <| TL.move hF rfl rfl TL.fin) ?_
      refine DR.stepV [_, _, _, _, _, _, _, _, _, _, _, _, _, _, _, _, _, _, _, _, _, _, _, _, _, _, _, _, _, _, _, _, _, _, _, _] rfl [(103, _, some 33), (104, _, some 34), (91, _, some 21)] rfl rfl ⟨⟨rfl, rfl, rfl⟩, ⟨rfl, rfl, rfl⟩, ⟨rfl, rfl, rfl⟩, trivial⟩ (fun ext => TL.on rfl rfl rfl (decide_eq_true (by omega)) <| TL.indexAddr hF rfl rfl (hgl.ad (i := k) (by omega)) (by omega) (by omega) rfl TL.fin) ?_
      refine DR.stepV [_, _, _, _, _, _, _, _, _, _, _, _, _, _, _, _, _, _, _, _, _, _, _, _, _, _, _, _, _, _, _, _, _, _, _, _, _] rfl [(105, _, some 35), (91, _, some 21)] rfl rfl ⟨⟨rfl, rfl, rfl⟩, ⟨rfl, rfl, rfl⟩, trivial⟩ (fun ext => TL.on rfl rfl rfl (decide_eq_true (by omega)) <| TL.load hF rfl (hgl.ro.at (i := k) (by omega)) rfl TL.fin) ?_
      refine DR.stepV [_, _, _, _, _, _, _, _, _, _, _, _, _, _, _, _, _, _, _, _, _, _, _, _, _, _, _, _, _, _, _, _, _, _, _, _, _, _] rfl [(99, _, some 29), (106, _, some 36), (91, _, some 21)] rfl rfl ⟨⟨rfl, rfl, rfl⟩, ⟨rfl, rfl, rfl⟩, ⟨rfl, rfl, rfl⟩, trivial⟩ (fun ext => TL.on rfl rfl rfl (decide_eq_true (by omega)) <| TL.callV hF (Equal_fn (hgl.ro.it (i := k - 1) (by omega)) (hgl.ro.it (i := k) hkl) (by have := hkw1 hk0; omega)) rfl rfl TL.fin) ?_
      refine DR.stepV [_, _, _, _, _, _, _, _, _, _, _, _, _, _, _, _, _, _, _, _, _, _, _, _, _, _, _, _, _, _, _, _, _, _, _, _, _, _, _] rfl [(107, _, some 37), (91, _, some 21)] rfl rfl ⟨⟨rfl, rfl, rfl⟩, ⟨rfl, rfl, rfl⟩, trivial⟩ (fun ext => TL.on rfl rfl rfl (decide_eq_true (by omega)) <| TL.move hF rfl rfl TL.fin) ?_
      refine DR.stepV [_, _, _, _, _, _, _, _, _, _, _, _, _, _, _, _, _, _, _, _, _, _, _, _, _, _, _, _, _, _, _, _, _, _, _, _, _, _, _, _] rfl [(3, _, none), (108, _, some 38)] rfl rfl ⟨⟨rfl, by kernel_rfl⟩, ⟨rfl, rfl, rfl⟩, trivial⟩ (fun ext => TL.on rfl rfl rfl (decide_eq_false (hup hk0).2) <| TL.move hF rfl rfl TL.fin) ?_
      refine DR.stepV [_, _, _, _, _, _, _, _, _, _, _, _, _, _, _, _, _, _, _, _, _, _, _, _, _, _, _, _, _, _, _, _, _, _, _, _, _, _, _, _, _] rfl [(10, _, none), (108, _, some 38)] rfl rfl ⟨⟨rfl, by kernel_rfl⟩, ⟨rfl, rfl, rfl⟩, trivial⟩ (fun ext => TL.on rfl rfl rfl (decide_eq_false (hup hk0).2) <| TL.move hF rfl rfl TL.fin) ?_
      refine DR.stepV [_, _, _, _, _, _, _, _, _, _, _, _, _, _, _, _, _, _, _, _, _, _, _, _, _, _, _, _, _, _, _, _, _, _, _, _, _, _, _, _, _, _] rfl [(109, _, some 39), (110, _, some 40), (108, _, some 38)] rfl rfl ⟨⟨rfl, rfl, rfl⟩, ⟨rfl, rfl, rfl⟩, ⟨rfl, rfl, rfl⟩, trivial⟩ (fun ext => TL.on rfl rfl rfl (decide_eq_false (hup hk0).2) <| TL.indexAddr hF rfl rfl (h3.ad (i := i) hig) (by omega) (by omega) rfl TL.fin) ?_
      refine DR.stepV [_, _, _, _, _, _, _, _, _, _, _, _, _, _, _, _, _, _, _, _, _, _, _, _, _, _, _, _, _, _, _, _, _, _, _, _, _, _, _, _, _, _, _] rfl [(111, _, some 41), (108, _, some 38)] rfl rfl ⟨⟨rfl, rfl, rfl⟩, ⟨rfl, rfl, rfl⟩, trivial⟩ (fun ext => TL.on rfl rfl rfl (decide_eq_false (hup hk0).2) <| TL.load hF rfl (h3.ro.at (i := i) hig) rfl TL.fin) ?_
      refine DR.stepV [_, _, _, _, _, _, _, _, _, _, _, _, _, _, _, _, _, _, _, _, _, _, _, _, _, _, _, _, _, _, _, _, _, _, _, _, _, _, _, _, _, _, _, _] rfl [(11, _, none), (108, _, some 38)] rfl rfl ⟨⟨rfl, by kernel_rfl⟩, ⟨rfl, rfl, rfl⟩, trivial⟩ (fun ext => TL.on rfl rfl rfl (decide_eq_false (hup hk0).2) <| TL.move hF rfl rfl TL.fin) ?_
      refine DR.stepV [_, _, _, _, _, _, _, _, _, _, _, _, _, _, _, _, _, _, _, _, _, _, _, _, _, _, _, _, _, _, _, _, _, _, _, _, _, _, _, _, _, _, _, _, _] rfl [(113, _, some 43), (108, _, some 38)] rfl rfl ⟨⟨rfl, rfl, rfl⟩, ⟨rfl, rfl, rfl⟩, trivial⟩ (fun ext => TL.on rfl rfl rfl (decide_eq_false (hup hk0).2) <| TL.subK hF rfl rfl (r := ((k - 1 : Nat) : Int)) ((wrap_i64 (by omega) (by omega)).trans (by omega)) rfl TL.fin) ?_
      refine DR.stepV [_, _, _, _, _, _, _, _, _, _, _, _, _, _, _, _, _, _, _, _, _, _, _, _, _, _, _, _, _, _, _, _, _, _, _, _, _, _, _, _, _, _, _, _, _, _] rfl [(112, _, some 42), (114, _, some 44), (108, _, some 38)] rfl rfl ⟨⟨rfl, rfl, rfl⟩, ⟨rfl, rfl, rfl⟩, ⟨rfl, rfl, rfl⟩, trivial⟩ (fun ext => TL.on rfl rfl rfl (decide_eq_false (hup hk0).2) <| TL.indexAddr hF rfl rfl (hgl.ad (i := k - 1) (by omega)) (by omega) (by omega) rfl TL.fin) ?_
      refine DR.stepV [_, _, _, _, _, _, _, _, _, _, _, _, _, _, _, _, _, _, _, _, _, _, _, _, _, _, _, _, _, _, _, _, _, _, _, _, _, _, _, _, _, _, _, _, _, _, _] rfl [(115, _, some 45), (108, _, some 38)] rfl rfl ⟨⟨rfl, rfl, rfl⟩, ⟨rfl, rfl, rfl⟩, trivial⟩ (fun ext => TL.on rfl rfl rfl (decide_eq_false (hup hk0).2) <| TL.load hF rfl (hgl.ro.at (i := k - 1) (by omega)) rfl TL.fin) ?_
      refine DR.stepV [_, _, _, _, _, _, _, _, _, _, _, _, _, _, _, _, _, _, _, _, _, _, _, _, _, _, _, _, _, _, _, _, _, _, _, _, _, _, _, _, _, _, _, _, _, _, _, _] rfl [(3, _, none), (108, _, some 38)] rfl rfl ⟨⟨rfl, by kernel_rfl⟩, ⟨rfl, rfl, rfl⟩, trivial⟩ (fun ext => TL.on rfl rfl rfl (decide_eq_false (hup hk0).2) <| TL.move hF rfl rfl TL.fin) ?_
      refine DR.stepV [_, _, _, _, _, _, _, _, _, _, _, _, _, _, _, _, _, _, _, _, _, _, _, _, _, _, _, _, _, _, _, _, _, _, _, _, _, _, _, _, _, _, _, _, _, _, _, _, _] rfl [(10, _, none), (108, _, some 38)] rfl rfl ⟨⟨rfl, by kernel_rfl⟩, ⟨rfl, rfl, rfl⟩, trivial⟩ (fun ext => TL.on rfl rfl rfl (decide_eq_false (hup hk0).2) <| TL.move hF rfl rfl TL.fin) ?_
      refine DR.stepV [_, _, _, _, _, _, _, _, _, _, _, _, _, _, _, _, _, _, _, _, _, _, _, _, _, _, _, _, _, _, _, _, _, _, _, _, _, _, _, _, _, _, _, _, _, _, _, _, _, _] rfl [(117, _, some 47), (118, _, some 48), (108, _, some 38)] rfl rfl ⟨⟨rfl, rfl, rfl⟩, ⟨rfl, rfl, rfl⟩, ⟨rfl, rfl, rfl⟩, trivial⟩ (fun ext => TL.on rfl rfl rfl (decide_eq_false (hup hk0).2) <| TL.indexAddr hF rfl rfl (h3.ad (i := i) hig) (by omega) (by omega) rfl TL.fin) ?_
      refine DR.stepV [_, _, _, _, _, _, _, _, _, _, _, _, _, _, _, _, _, _, _, _, _, _, _, _, _, _, _, _, _, _, _, _, _, _, _, _, _, _, _, _, _, _, _, _, _, _, _, _, _, _, _] rfl [(119, _, some 49), (108, _, some 38)] rfl rfl ⟨⟨rfl, rfl, rfl⟩, ⟨rfl, rfl, rfl⟩, trivial⟩ (fun ext => TL.on rfl rfl rfl (decide_eq_false (hup hk0).2) <| TL.load hF rfl (h3.ro.at (i := i) hig) rfl TL.fin) ?_
      refine DR.stepV [_, _, _, _, _, _, _, _, _, _, _, _, _, _, _, _, _, _, _, _, _, _, _, _, _, _, _, _, _, _, _, _, _, _, _, _, _, _, _, _, _, _, _, _, _, _, _, _, _, _, _, _] rfl [(11, _, none), (108, _, some 38)] rfl rfl ⟨⟨rfl, by kernel_rfl⟩, ⟨rfl, rfl, rfl⟩, trivial⟩ (fun ext => TL.on rfl rfl rfl (decide_eq_false (hup hk0).2) <| TL.move hF rfl rfl TL.fin) ?_
      refine DR.stepV [_, _, _, _, _, _, _, _, _, _, _, _, _, _, _, _, _, _, _, _, _, _, _, _, _, _, _, _, _, _, _, _, _, _, _, _, _, _, _, _, _, _, _, _, _, _, _, _, _, _, _, _, _] rfl [(120, _, some 50), (121, _, some 51), (108, _, some 38)] rfl rfl ⟨⟨rfl, rfl, rfl⟩, ⟨rfl, rfl, rfl⟩, ⟨rfl, rfl, rfl⟩, trivial⟩ (fun ext => TL.on rfl rfl rfl (decide_eq_false (hup hk0).2) <| TL.indexAddr hF rfl rfl (hgl.ad (i := k) (by omega)) (by omega) (by omega) rfl TL.fin) ?_
      refine DR.stepV [_, _, _, _, _, _, _, _, _, _, _, _, _, _, _, _, _, _, _, _, _, _, _, _, _, _, _, _, _, _, _, _, _, _, _, _, _, _, _, _, _, _, _, _, _, _, _, _, _, _, _, _, _, _] rfl [(122, _, some 52), (108, _, some 38)] rfl rfl ⟨⟨rfl, rfl, rfl⟩, ⟨rfl, rfl, rfl⟩, trivial⟩ (fun ext => TL.on rfl rfl rfl (decide_eq_false (hup hk0).2) <| TL.load hF rfl (hgl.ro.at (i := k) (by omega)) rfl TL.fin) ?_
      refine DR.done [(123, _), (122, _), (121, _), (120, _), (119, _), (118, _), (117, _), (116, _), (115, _), (114, _), (113, _), (112, _), (111, _), (110, _), (109, _), (108, _), (107, _), (106, _), (105, _), (104, _), (103, _), (102, _), (101, _), (100, _), (99, _), (98, _), (97, _), (96, _), (95, _), (94, _), (93, _), (92, _), (91, _), (90, _), (89, _), (88, _), (87, _), (86, _), (85, _), (84, _), (83, _), (82, _), (81, _), (80, _), (79, _), (78, _), (77, _), (76, _), (75, _), (74, _), (73, _), (72, _), (71, _), (70, _)] [_, _, _, _, _] mixed (by kernel_rfl) (by kernel_rfl) (by kernel_rfl) rfl rfl ?_
      refine TL.on rfl rfl rfl (decide_eq_false (hup hk0).2) ?_
      refine TL.callV hF (AtOrBefore_fn (hgl.ro.it (i := k - 1) (by omega)) (hgl.ro.it (i := k) hkl) ((hkw1 hk0).trans hkw.symm) (by have := hkw1 hk0; omega)) rfl rfl ?_
      refine TL.on rfl rfl rfl (decide_eq_false (hup hk0).2) ?_
      refine TL.not hF rfl rfl ?_
      refine TL.on rfl rfl rfl (decide_eq_true (by omega)) ?_
      refine TL.pickF hF rfl (decide_eq_false (hup hk0).2) rfl rfl ?_
      refine TL.on rfl rfl rfl (by first | exact decide_eq_false (by omega) | (simp; omega)) ?_
      refine TL.pickT hF rfl (decide_eq_true (by omega)) rfl rfl ?_
      refine TL.pickF hF rfl (by first | exact decide_eq_false (by omega) | (simp; omega)) rfl rfl ?_
      refine TL.nil ?_
      refine TQ.then_n ?_
      refine T.cond_f rfl (by rw [(hup hk0).1]; rfl) ?_
      refine T.skip ?_
      refine TQ.block_n ?_
      refine TQ.then_n ?_
      refine T.region ?_
      refine TL.move hF rfl rfl ?_
      refine TL.add hF rfl rfl (by omega) (by omega) rfl ?_
      refine TL.assign hF rfl rfl ?_
      refine TL.nil ?_
      exact TQ.round (k + 1) (by omega) (by omega) ⟨rfl, rfl, rfl, rfl, rfl, rfl, rfl, rfl, rfl, trivial⟩ rfl
     ·refine T.draw ?_
      refine DR.stepV [_] rfl [(8, _, none)] rfl rfl ⟨⟨rfl, by kernel_rfl⟩, trivial⟩ (fun ext => TL.move hF rfl rfl TL.fin) ?_
      refine DR.stepV [_, _] rfl [(70, _, some 0)] rfl rfl ⟨⟨rfl, rfl, rfl⟩, trivial⟩ (fun ext => TL.len hF rfl rfl TL.fin) ?_
      refine DR.stepV [_, _, _] rfl [(71, _, some 1)] rfl rfl ⟨⟨rfl, rfl, rfl⟩, trivial⟩ (fun ext => TL.bin hF rfl rfl rfl rfl TL.fin) ?_
      refine DR.stepV [_, _, _, _] rfl [(72, _, some 2)] rfl rfl ⟨⟨rfl, rfl, rfl⟩, trivial⟩ (fun ext => TL.move hF rfl rfl TL.fin) ?_
      refine DR.stepV [_, _, _, _, _] rfl [(3, _, none), (73, _, some 3)] rfl rfl ⟨⟨rfl, by kernel_rfl⟩, ⟨rfl, rfl, rfl⟩, trivial⟩ (fun ext => TL.on rfl rfl rfl (decide_eq_false (by omega)) <| TL.move hF rfl rfl TL.fin) ?_
      refine DR.stepV [_, _, _, _, _, _] rfl [(10, _, none), (73, _, some 3)] rfl rfl ⟨⟨rfl, by kernel_rfl⟩, ⟨rfl, rfl, rfl⟩, trivial⟩ (fun ext => TL.on rfl rfl rfl (decide_eq_false (by omega)) <| TL.move hF rfl rfl TL.fin) ?_
      refine DR.stepV [_, _, _, _, _, _, _] rfl [(74, _, some 4), (75, _, some 5), (73, _, some 3)] rfl rfl ⟨⟨rfl, rfl, rfl⟩, ⟨rfl, rfl, rfl⟩, ⟨rfl, rfl, rfl⟩, trivial⟩ (fun ext => TL.on rfl rfl rfl (decide_eq_false (by omega)) <| TL.indexAddr hF rfl rfl (h3.ad (i := i) hig) (by omega) (by omega) rfl TL.fin) ?_
      refine DR.stepV [_, _, _, _, _, _, _, _] rfl [(76, _, some 6), (73, _, some 3)] rfl rfl ⟨⟨rfl, rfl, rfl⟩, ⟨rfl, rfl, rfl⟩, trivial⟩ (fun ext => TL.on rfl rfl rfl (decide_eq_false (by omega)) <| TL.load hF rfl (h3.ro.at (i := i) hig) rfl TL.fin) ?_
      refine DR.stepV [_, _, _, _, _, _, _, _, _] rfl [(11, _, none), (73, _, some 3)] rfl rfl ⟨⟨rfl, by kernel_rfl⟩, ⟨rfl, rfl, rfl⟩, trivial⟩ (fun ext => TL.on rfl rfl rfl (decide_eq_false (by omega)) <| TL.move hF rfl rfl TL.fin) ?_
      refine DR.stepV [_, _, _, _, _, _, _, _, _, _] rfl [(77, _, some 7), (78, _, some 8), (73, _, some 3)] rfl rfl ⟨⟨rfl, rfl, rfl⟩, ⟨rfl, rfl, rfl⟩, ⟨rfl, rfl, rfl⟩, trivial⟩ (fun ext => TL.on rfl rfl rfl (decide_eq_false (by omega)) <| TL.indexAddr hF rfl rfl (hgl.ad (i := k) (by omega)) (by omega) (by omega) rfl TL.fin) ?_
      refine DR.stepV [_, _, _, _, _, _, _, _, _, _, _] rfl [(79, _, some 9), (73, _, some 3)] rfl rfl ⟨⟨rfl, rfl, rfl⟩, ⟨rfl, rfl, rfl⟩, trivial⟩ (fun ext => TL.on rfl rfl rfl (decide_eq_false (by omega)) <| TL.load hF rfl (hgl.ro.at (i := k) (by omega)) rfl TL.fin) ?_
      refine DR.stepV [_, _, _, _, _, _, _, _, _, _, _, _] rfl [(80, _, some 10), (73, _, some 3)] rfl rfl ⟨⟨rfl, rfl, rfl⟩, ⟨rfl, rfl, rfl⟩, trivial⟩ (fun ext => TL.on rfl rfl rfl (decide_eq_false (by omega)) <| TL.len hF rfl rfl TL.fin) ?_
      refine DR.stepV [_, _, _, _, _, _, _, _, _, _, _, _, _] rfl [(8, _, none), (73, _, some 3)] rfl rfl ⟨⟨rfl, by kernel_rfl⟩, ⟨rfl, rfl, rfl⟩, trivial⟩ (fun ext => TL.on rfl rfl rfl (decide_eq_false (by omega)) <| TL.move hF rfl rfl TL.fin) ?_
      refine DR.stepV [_, _, _, _, _, _, _, _, _, _, _, _, _, _] rfl [(82, _, some 12), (73, _, some 3)] rfl rfl ⟨⟨rfl, rfl, rfl⟩, ⟨rfl, rfl, rfl⟩, trivial⟩ (fun ext => TL.on rfl rfl rfl (decide_eq_false (by omega)) <| TL.indexAddr hF rfl rfl (h8.ad (i := 0) hq0) (by omega) (by omega) rfl TL.fin) ?_
      refine DR.stepV [_, _, _, _, _, _, _, _, _, _, _, _, _, _, _] rfl [(83, _, some 13), (73, _, some 3)] rfl rfl ⟨⟨rfl, rfl, rfl⟩, ⟨rfl, rfl, rfl⟩, trivial⟩ (fun ext => TL.on rfl rfl rfl (decide_eq_false (by omega)) <| TL.load hF rfl (h8.ro.at (i := 0) hq0) rfl TL.fin) ?_
      refine DR.stepV [_, _, _, _, _, _, _, _, _, _, _, _, _, _, _, _] rfl [(84, _, some 14), (73, _, some 3)] rfl rfl ⟨⟨rfl, rfl, rfl⟩, ⟨rfl, rfl, rfl⟩, trivial⟩ (fun ext => TL.on rfl rfl rfl (decide_eq_false (by omega)) <| TL.len hF rfl rfl TL.fin) ?_
      refine DR.stepV [_, _, _, _, _, _, _, _, _, _, _, _, _, _, _, _, _] rfl [(81, _, some 11), (85, _, some 15), (73, _, some 3)] rfl rfl ⟨⟨rfl, rfl, rfl⟩, ⟨rfl, rfl, rfl⟩, ⟨rfl, rfl, rfl⟩, trivial⟩ (fun ext => TL.on rfl rfl rfl (decide_eq_false (by omega)) <| TL.bin hF rfl rfl rfl rfl TL.fin) ?_
      refine DR.stepV [_, _, _, _, _, _, _, _, _, _, _, _, _, _, _, _, _, _] rfl [(73, _, some 3), (86, _, some 16)] rfl rfl ⟨⟨rfl, rfl, rfl⟩, ⟨rfl, rfl, rfl⟩, trivial⟩ (fun ext => TL.pickF hF rfl (decide_eq_false (by omega)) rfl rfl TL.fin) ?_
      refine DR.stepV [_, _, _, _, _, _, _, _, _, _, _, _, _, _, _, _, _, _, _] rfl [(87, _, some 17)] rfl rfl ⟨⟨rfl, rfl, rfl⟩, trivial⟩ (fun ext => TL.move hF rfl rfl TL.fin) ?_
      refine DR.stepV [_, _, _, _, _, _, _, _, _, _, _, _, _, _, _, _, _, _, _, _] rfl [(11, _, none), (88, _, some 18)] rfl rfl ⟨⟨rfl, by kernel_rfl⟩, ⟨rfl, rfl, rfl⟩, trivial⟩ (fun ext => TL.on rfl rfl rfl (by first | exact decide_eq_false (by omega) | (simp; omega)) <| TL.move hF rfl rfl TL.fin) ?_
      refine DR.stepV [_, _, _, _, _, _, _, _, _, _, _, _, _, _, _, _, _, _, _, _, _] rfl [(89, _, some 19), (88, _, some 18)] rfl rfl ⟨⟨rfl, rfl, rfl⟩, ⟨rfl, rfl, rfl⟩, trivial⟩ (fun ext => TL.on rfl rfl rfl (by first | exact decide_eq_false (by omega) | (simp; omega)) <| TL.bin hF rfl rfl rfl rfl TL.fin) ?_
      refine DR.stepV [_, _, _, _, _, _, _, _, _, _, _, _, _, _, _, _, _, _, _, _, _, _] rfl [(90, _, some 20), (88, _, some 18)] rfl rfl ⟨⟨rfl, rfl, rfl⟩, ⟨rfl, rfl, rfl⟩, trivial⟩ (fun ext => TL.on rfl rfl rfl (by first | exact decide_eq_false (by omega) | (simp; omega)) <| TL.move hF rfl rfl TL.fin) ?_
      refine DR.stepV [_, _, _, _, _, _, _, _, _, _, _, _, _, _, _, _, _, _, _, _, _, _, _] rfl [(3, _, none), (91, _, some 21)] rfl rfl ⟨⟨rfl, by kernel_rfl⟩, ⟨rfl, rfl, rfl⟩, trivial⟩ (fun ext => TL.off hF rfl rfl rfl (decide_eq_false (by omega)) rfl TL.fin) ?_
      refine DR.stepV [_, _, _, _, _, _, _, _, _, _, _, _, _, _, _, _, _, _, _, _, _, _, _, _] rfl [(10, _, none), (91, _, some 21)] rfl rfl ⟨⟨rfl, by kernel_rfl⟩, ⟨rfl, rfl, rfl⟩, trivial⟩ (fun ext => TL.off hF rfl rfl rfl (decide_eq_false (by omega)) rfl TL.fin) ?_
      refine DR.stepV [_, _, _, _, _, _, _, _, _, _, _, _, _, _, _, _, _, _, _, _, _, _, _, _, _] rfl [(92, _, some 22), (93, _, some 23), (91, _, some 21)] rfl rfl ⟨⟨rfl, rfl, rfl⟩, ⟨rfl, rfl, rfl⟩, ⟨rfl, rfl, rfl⟩, trivial⟩ (fun ext => TL.off hF rfl rfl rfl (decide_eq_false (by omega)) rfl TL.fin) ?_
      refine DR.stepV [_, _, _, _, _, _, _, _, _, _, _, _, _, _, _, _, _, _, _, _, _, _, _, _, _, _] rfl [(94, _, some 24), (91, _, some 21)] rfl rfl ⟨⟨rfl, rfl, rfl⟩, ⟨rfl, rfl, rfl⟩, trivial⟩ (fun ext => TL.off hF rfl rfl rfl (decide_eq_false (by omega)) rfl TL.fin) ?_
      refine DR.stepV [_, _, _, _, _, _, _, _, _, _, _, _, _, _, _, _, _, _, _, _, _, _, _, _, _, _, _] rfl [(11, _, none), (91, _, some 21)] rfl rfl ⟨⟨rfl, by kernel_rfl⟩, ⟨rfl, rfl, rfl⟩, trivial⟩ (fun ext => TL.off hF rfl rfl rfl (decide_eq_false (by omega)) rfl TL.fin) ?_
      refine DR.stepV [_, _, _, _, _, _, _, _, _, _, _, _, _, _, _, _, _, _, _, _, _, _, _, _, _, _, _, _] rfl [(96, _, some 26), (91, _, some 21)] rfl rfl ⟨⟨rfl, rfl, rfl⟩, ⟨rfl, rfl, rfl⟩, trivial⟩ (fun ext => TL.off hF rfl rfl rfl (decide_eq_false (by omega)) rfl TL.fin) ?_
      refine DR.stepV [_, _, _, _, _, _, _, _, _, _, _, _, _, _, _, _, _, _, _, _, _, _, _, _, _, _, _, _, _] rfl [(95, _, some 25), (97, _, some 27), (91, _, some 21)] rfl rfl ⟨⟨rfl, rfl, rfl⟩, ⟨rfl, rfl, rfl⟩, ⟨rfl, rfl, rfl⟩, trivial⟩ (fun ext => TL.off hF rfl rfl rfl (decide_eq_false (by omega)) rfl TL.fin) ?_
      refine DR.stepV [_, _, _, _, _, _, _, _, _, _, _, _, _, _, _, _, _, _, _, _, _, _, _, _, _, _, _, _, _, _] rfl [(98, _, some 28), (91, _, some 21)] rfl rfl ⟨⟨rfl, rfl, rfl⟩, ⟨rfl, rfl, rfl⟩, trivial⟩ (fun ext => TL.off hF rfl rfl rfl (decide_eq_false (by omega)) rfl TL.fin) ?_
      refine DR.stepV [_, _, _, _, _, _, _, _, _, _, _, _, _, _, _, _, _, _, _, _, _, _, _, _, _, _, _, _, _, _, _] rfl [(3, _, none), (91, _, some 21)] rfl rfl ⟨⟨rfl, by kernel_rfl⟩, ⟨rfl, rfl, rfl⟩, trivial⟩ (fun ext => TL.off hF rfl rfl rfl (decide_eq_false (by omega)) rfl TL.fin) ?_
      refine DR.stepV [_, _, _, _, _, _, _, _, _, _, _, _, _, _, _, _, _, _, _, _, _, _, _, _, _, _, _, _, _, _, _, _] rfl [(10, _, none), (91, _, some 21)] rfl rfl ⟨⟨rfl, by kernel_rfl⟩, ⟨rfl, rfl, rfl⟩, trivial⟩ (fun ext => TL.off hF rfl rfl rfl (decide_eq_false (by omega)) rfl TL.fin) ?_
      refine DR.stepV [_, _, _, _, _, _, _, _, _, _, _, _, _, _, _, _, _, _, _, _, _, _, _, _, _, _, _, _, _, _, _, _, _] rfl [(100, _, some 30), (101, _, some 31), (91, _, some 21)] rfl rfl ⟨⟨rfl, rfl, rfl⟩, ⟨rfl, rfl, rfl⟩, ⟨rfl, rfl, rfl⟩, trivial⟩ (fun ext => TL.off hF rfl rfl rfl (decide_eq_false (by omega)) rfl TL.fin) ?_
      refine DR.stepV [_, _, _, _, _, _, _, _, _, _, _, _, _, _, _, _, _, _, _, _, _, _, _, _, _, _, _, _, _, _, _, _, _, _] rfl [(102, _, some 32), (91, _, some 21)] rfl rfl ⟨⟨rfl, rfl, rfl⟩, ⟨rfl, rfl, rfl⟩, trivial⟩ (fun ext => TL.off hF rfl rfl rfl (decide_eq_false (by omega)) rfl TL.fin) ?_
      refine DR.stepV [_, _, _, _, _, _, _, _, _, _, _, _, _, _, _, _, _, _, _, _, _, _, _, _, _, _, _, _, _, _, _, _, _, _, _] rfl [(11, _, none), (91, _, some 21)] rfl rfl ⟨⟨rfl, by kernel_rfl⟩, ⟨rfl, rfl, rfl⟩, trivial⟩ (fun ext => TL.off hF rfl rfl rfl (decide_eq_false (by omega)) rfl TL.fin) ?_
      refine DR.stepV [_, _, _, _, _, _, _, _, _, _, _, _, _, _, _, _, _, _, _, _, _, _, _, _, _, _, _, _, _, _, _, _, _, _, _, _] rfl [(103, _, some 33), (104, _, some 34), (91, _, some 21)] rfl rfl ⟨⟨rfl, rfl, rfl⟩, ⟨rfl, rfl, rfl⟩, ⟨rfl, rfl, rfl⟩, trivial⟩ (fun ext => TL.off hF rfl rfl rfl (decide_eq_false (by omega)) rfl TL.fin) ?_
      refine DR.stepV [_, _, _, _, _, _, _, _, _, _, _, _, _, _, _, _, _, _, _, _, _, _, _, _, _, _, _, _, _, _, _, _, _, _, _, _, _] rfl [(105, _, some 35), (91, _, some 21)] rfl rfl ⟨⟨rfl, rfl, rfl⟩, ⟨rfl, rfl, rfl⟩, trivial⟩ (fun ext => TL.off hF rfl rfl rfl (decide_eq_false (by omega)) rfl TL.fin) ?_
      refine DR.stepV [_, _, _, _, _, _, _, _, _, _, _, _, _, _, _, _, _, _, _, _, _, _, _, _, _, _, _, _, _, _, _, _, _, _, _, _, _, _] rfl [(99, _, some 29), (106, _, some 36), (91, _, some 21)] rfl rfl ⟨⟨rfl, rfl, rfl⟩, ⟨rfl, rfl, rfl⟩, ⟨rfl, rfl, rfl⟩, trivial⟩ (fun ext => TL.off hF rfl rfl rfl (decide_eq_false (by omega)) rfl TL.fin) ?_
      refine DR.stepV [_, _, _, _, _, _, _, _, _, _, _, _, _, _, _, _, _, _, _, _, _, _, _, _, _, _, _, _, _, _, _, _, _, _, _, _, _, _, _] rfl [(107, _, some 37), (91, _, some 21)] rfl rfl ⟨⟨rfl, rfl, rfl⟩, ⟨rfl, rfl, rfl⟩, trivial⟩ (fun ext => TL.off hF rfl rfl rfl (decide_eq_false (by omega)) rfl TL.fin) ?_
      refine DR.stepV [_, _, _, _, _, _, _, _, _, _, _, _, _, _, _, _, _, _, _, _, _, _, _, _, _, _, _, _, _, _, _, _, _, _, _, _, _, _, _, _] rfl [(3, _, none), (108, _, some 38)] rfl rfl ⟨⟨rfl, by kernel_rfl⟩, ⟨rfl, rfl, rfl⟩, trivial⟩ (fun ext => TL.offU hF rfl rfl rfl rfl TL.fin) ?_
      refine DR.stepV [_, _, _, _, _, _, _, _, _, _, _, _, _, _, _, _, _, _, _, _, _, _, _, _, _, _, _, _, _, _, _, _, _, _, _, _, _, _, _, _, _] rfl [(10, _, none), (108, _, some 38)] rfl rfl ⟨⟨rfl, by kernel_rfl⟩, ⟨rfl, rfl, rfl⟩, trivial⟩ (fun ext => TL.offU hF rfl rfl rfl rfl TL.fin) ?_
      refine DR.stepV [_, _, _, _, _, _, _, _, _, _, _, _, _, _, _, _, _, _, _, _, _, _, _, _, _, _, _, _, _, _, _, _, _, _, _, _, _, _, _, _, _, _] rfl [(109, _, some 39), (110, _, some 40), (108, _, some 38)] rfl rfl ⟨⟨rfl, rfl, rfl⟩, ⟨rfl, rfl, rfl⟩, ⟨rfl, rfl, rfl⟩, trivial⟩ (fun ext => TL.offU hF rfl rfl rfl rfl TL.fin) ?_
      refine DR.stepV [_, _, _, _, _, _, _, _, _, _, _, _, _, _, _, _, _, _, _, _, _, _, _, _, _, _, _, _, _, _, _, _, _, _, _, _, _, _, _, _, _, _, _] rfl [(111, _, some 41), (108, _, some 38)] rfl rfl ⟨⟨rfl, rfl, rfl⟩, ⟨rfl, rfl, rfl⟩, trivial⟩ (fun ext => TL.offU hF rfl rfl rfl rfl TL.fin) ?_
      refine DR.stepV [_, _, _, _, _, _, _, _, _, _, _, _, _, _, _, _, _, _, _, _, _, _, _, _, _, _, _, _, _, _, _, _, _, _, _, _, _, _, _, _, _, _, _, _] rfl [(11, _, none), (108, _, some 38)] rfl rfl ⟨⟨rfl, by kernel_rfl⟩, ⟨rfl, rfl, rfl⟩, trivial⟩ (fun ext => TL.offU hF rfl rfl rfl rfl TL.fin) ?_
      refine DR.stepV [_, _, _, _, _, _, _, _, _, _, _, _, _, _, _, _, _, _, _, _, _, _, _, _, _, _, _, _, _, _, _, _, _, _, _, _, _, _, _, _, _, _, _, _, _] rfl [(113, _, some 43), (108, _, some 38)] rfl rfl ⟨⟨rfl, rfl, rfl⟩, ⟨rfl, rfl, rfl⟩, trivial⟩ (fun ext => TL.offU hF rfl rfl rfl rfl TL.fin) ?_
      refine DR.stepV [_, _, _, _, _, _, _, _, _, _, _, _, _, _, _, _, _, _, _, _, _, _, _, _, _, _, _, _, _, _, _, _, _, _, _, _, _, _, _, _, _, _, _, _, _, _] rfl [(112, _, some 42), (114, _, some 44), (108, _, some 38)] rfl rfl ⟨⟨rfl, rfl, rfl⟩, ⟨rfl, rfl, rfl⟩, ⟨rfl, rfl, rfl⟩, trivial⟩ (fun ext => TL.offU hF rfl rfl rfl rfl TL.fin) ?_
      refine DR.stepV [_, _, _, _, _, _, _, _, _, _, _, _, _, _, _, _, _, _, _, _, _, _, _, _, _, _, _, _, _, _, _, _, _, _, _, _, _, _, _, _, _, _, _, _, _, _, _] rfl [(115, _, some 45), (108, _, some 38)] rfl rfl ⟨⟨rfl, rfl, rfl⟩, ⟨rfl, rfl, rfl⟩, trivial⟩ (fun ext => TL.offU hF rfl rfl rfl rfl TL.fin) ?_
      refine DR.stepV [_, _, _, _, _, _, _, _, _, _, _, _, _, _, _, _, _, _, _, _, _, _, _, _, _, _, _, _, _, _, _, _, _, _, _, _, _, _, _, _, _, _, _, _, _, _, _, _] rfl [(3, _, none), (108, _, some 38)] rfl rfl ⟨⟨rfl, by kernel_rfl⟩, ⟨rfl, rfl, rfl⟩, trivial⟩ (fun ext => TL.offU hF rfl rfl rfl rfl TL.fin) ?_
      refine DR.stepV [_, _, _, _, _, _, _, _, _, _, _, _, _, _, _, _, _, _, _, _, _, _, _, _, _, _, _, _, _, _, _, _, _, _, _, _, _, _, _, _, _, _, _, _, _, _, _, _, _] rfl [(10, _, none), (108, _, some 38)] rfl rfl ⟨⟨rfl, by kernel_rfl⟩, ⟨rfl, rfl, rfl⟩, trivial⟩ (fun ext => TL.offU hF rfl rfl rfl rfl TL.fin) ?_
      refine DR.stepV [_, _, _, _, _, _, _, _, _, _, _, _, _, _, _, _, _, _, _, _, _, _, _, _, _, _, _, _, _, _, _, _, _, _, _, _, _, _, _, _, _, _, _, _, _, _, _, _, _, _] rfl [(117, _, some 47), (118, _, some 48), (108, _, some 38)] rfl rfl ⟨⟨rfl, rfl, rfl⟩, ⟨rfl, rfl, rfl⟩, ⟨rfl, rfl, rfl⟩, trivial⟩ (fun ext => TL.offU hF rfl rfl rfl rfl TL.fin) ?_
      refine DR.stepV [_, _, _, _, _, _, _, _, _, _, _, _, _, _, _, _, _, _, _, _, _, _, _, _, _, _, _, _, _, _, _, _, _, _, _, _, _, _, _, _, _, _, _, _, _, _, _, _, _, _, _] rfl [(119, _, some 49), (108, _, some 38)] rfl rfl ⟨⟨rfl, rfl, rfl⟩, ⟨rfl, rfl, rfl⟩, trivial⟩ (fun ext => TL.offU hF rfl rfl rfl rfl TL.fin) ?_
      refine DR.stepV [_, _, _, _, _, _, _, _, _, _, _, _, _, _, _, _, _, _, _, _, _, _, _, _, _, _, _, _, _, _, _, _, _, _, _, _, _, _, _, _, _, _, _, _, _, _, _, _, _, _, _, _] rfl [(11, _, none), (108, _, some 38)] rfl rfl ⟨⟨rfl, by kernel_rfl⟩, ⟨rfl, rfl, rfl⟩, trivial⟩ (fun ext => TL.offU hF rfl rfl rfl rfl TL.fin) ?_
      refine DR.stepV [_, _, _, _, _, _, _, _, _, _, _, _, _, _, _, _, _, _, _, _, _, _, _, _, _, _, _, _, _, _, _, _, _, _, _, _, _, _, _, _, _, _, _, _, _, _, _, _, _, _, _, _, _] rfl [(120, _, some 50), (121, _, some 51), (108, _, some 38)] rfl rfl ⟨⟨rfl, rfl, rfl⟩, ⟨rfl, rfl, rfl⟩, ⟨rfl, rfl, rfl⟩, trivial⟩ (fun ext => TL.offU hF rfl rfl rfl rfl TL.fin) ?_
      refine DR.stepV [_, _, _, _, _, _, _, _, _, _, _, _, _, _, _, _, _, _, _, _, _, _, _, _, _, _, _, _, _, _, _, _, _, _, _, _, _, _, _, _, _, _, _, _, _, _, _, _, _, _, _, _, _, _] rfl [(122, _, some 52), (108, _, some 38)] rfl rfl ⟨⟨rfl, rfl, rfl⟩, ⟨rfl, rfl, rfl⟩, trivial⟩ (fun ext => TL.offU hF rfl rfl rfl rfl TL.fin) ?_
      refine DR.done [(123, _), (122, _), (121, _), (120, _), (119, _), (118, _), (117, _), (116, _), (115, _), (114, _), (113, _), (112, _), (111, _), (110, _), (109, _), (108, _), (107, _), (106, _), (105, _), (104, _), (103, _), (102, _), (101, _), (100, _), (99, _), (98, _), (97, _), (96, _), (95, _), (94, _), (93, _), (92, _), (91, _), (90, _), (89, _), (88, _), (87, _), (86, _), (85, _), (84, _), (83, _), (82, _), (81, _), (80, _), (79, _), (78, _), (77, _), (76, _), (75, _), (74, _), (73, _), (72, _), (71, _), (70, _)] [_, _, _, _, _] mixed (by kernel_rfl) (by kernel_rfl) (by kernel_rfl) rfl rfl ?_
      refine TL.offU hF rfl rfl rfl rfl ?_
      refine TL.offU hF rfl rfl rfl rfl ?_
      refine TL.off hF rfl rfl rfl (decide_eq_false (by omega)) rfl ?_
      refine TL.on rfl rfl rfl (by first | exact decide_eq_false (by omega) | (simp; omega)) ?_
      refine TL.pickF hF rfl (decide_eq_false (by omega)) rfl rfl ?_
      refine TL.pickF hF rfl (by first | exact decide_eq_false (by omega) | (simp; omega)) rfl rfl ?_
      refine TL.nil ?_
      refine TQ.then_n ?_
      refine T.cond_f rfl rfl ?_
      refine T.skip ?_
      refine TQ.block_n ?_
      refine TQ.then_n ?_
      refine T.region ?_
      refine TL.move hF rfl rfl ?_
      refine TL.add hF rfl rfl (by omega) (by omega) rfl ?_
      refine TL.assign hF rfl rfl ?_
      refine TL.nil ?_
      exact TQ.round (k + 1) (by omega) (by omega) ⟨rfl, rfl, rfl, rfl, rfl, rfl, rfl, rfl, rfl, trivial⟩ rfl
    ·refine T.exit ?_
     refine TQ.then_x ?_
     refine TQ.then_x ?_
     refine TQ.block_x ?_
     refine TQ.then_n ?_
     refine T.seq ?_
     refine T.seq ?_
     refine T.region ?_
     refine TL.move hF rfl rfl ?_
     refine TL.move hF rfl rfl ?_
     refine TL.indexAddr hF rfl rfl (h3.ad (i := i) hig) (by omega) (by omega) rfl ?_
     refine TL.load hF rfl (h3.ro.at (i := i) hig) rfl ?_
     refine TL.len hF rfl rfl ?_
     refine TL.bin hF rfl rfl rfl rfl ?_
     refine TL.nil ?_
     refine TQ.then_n ?_
     refine T.cond_f rfl (decide_eq_false (by omega)) ?_
     refine T.skip ?_
     refine TQ.then_n ?_
     refine T.region ?_
     refine TL.move hF rfl rfl ?_
     refine TL.move hF rfl rfl ?_
     refine TL.move hF rfl rfl ?_
     refine TL.indexAddr hF rfl rfl (h3.ad (i := i) hig) (by omega) (by omega) rfl ?_
     refine TL.load hF rfl (h3.ro.at (i := i) hig) rfl ?_
     have hcs : (catG (gs.take (i + 1))) = (catG (gs.take i)) ++ gs[i].2.1 := catG_succ hig
     have hcle := catG_le gs i
     refine TL.append hF 0 rfl rfl rfl ho (hgl.ro.row).src rfl (by simp) (hc1 _) (by omega) (by omega) rfl (fun a' cap' seg' ho' => ?_)
     rw [← List.map_append, ← hcs, ← List.length_append, ← hcs] at ho'
     rw [← List.length_append, ← hcs]
     refine TL.assign hF rfl rfl ?_
     refine TL.nil ?_
     refine TQ.block_n ?_
     refine TQ.then_n ?_
     refine T.region ?_
     refine TL.move hF rfl rfl ?_
     refine TL.add hF rfl rfl (by omega) (by omega) rfl ?_
     refine TL.assign hF rfl rfl ?_
     refine TL.nil ?_
     exact TQ.round (i + 1, a', cap', seg') ⟨by omega, ho'⟩ (by dsimp only; omega) ⟨rfl, rfl, rfl, rfl, rfl, rfl, rfl, rfl, trivial⟩ rfl
   ·refine T.exit ?_
    refine TQ.then_x ?_
    refine TQ.then_x ?_
    refine TQ.block_x ?_
    refine TQ.then_n ?_
    refine T.seq ?_
    refine T.region ?_
    refine TL.move hF rfl rfl ?_
    have hik : i = gs.length := by have h : ¬ (i : Int) < (gs.length : Int) := ht58; omega
    have htk : gs.take i = gs := List.take_of_length_le (by omega)
    simp only [htk] at ho ⊢
    have hfw := Few_ref (η := [og]) (c := c8) h8 (by omega) hqw hw4 (by rw [t8]; intro i j hi2 hj2; exact EP_up hord hLw i j (by omega) (by omega))
    rw [t8, ← hLl] at hfw
    refine TL.callV hF (by rw [← hLl]; exact hfw) rfl rfl ?_
    have hall : LL _ _ [og] oa (catG gs) := h3.ro.cat (ho.row List.mem_cons_self)
    have hcw : ∀ p ∈ catG gs, p.2.1.length = w := fun p hp => by
     obtain ⟨g, hg, hpg⟩ := List.mem_flatMap.1 hp
     exact hgw g hg p hpg
    refine TL.assign hF rfl rfl ?_
    refine TL.nil ?_
    refine TQ.then_n ?_
    refine T.seq ?_
    refine T.region ?_
    refine TL.move hF rfl rfl ?_
    refine TL.bin hF rfl rfl rfl rfl ?_
    refine TL.move hF rfl rfl ?_
    refine TL.on rfl rfl rfl rfl ?_
    refine TL.move hF rfl rfl ?_
    refine TL.on rfl rfl rfl rfl ?_
    refine TL.bin hF rfl rfl rfl rfl ?_
    refine TL.pickT hF rfl rfl rfl rfl ?_
    refine TL.move hF rfl rfl ?_
    refine TL.on rfl rfl rfl rfl ?_
    refine TL.move hF rfl rfl ?_
    refine TL.on rfl rfl rfl rfl ?_
    refine TL.len hF rfl rfl ?_
    refine TL.on rfl rfl rfl rfl ?_
    refine TL.move hF rfl rfl ?_
    refine TL.on rfl rfl rfl rfl ?_
    refine TL.len hF rfl rfl ?_
    refine TL.on rfl rfl rfl rfl ?_
    refine TL.bin hF rfl rfl rfl rfl ?_
    refine TL.pickT hF rfl rfl rfl rfl ?_
    refine TL.move hF rfl rfl ?_
    refine TL.on rfl rfl rfl (decide_eq_true (by omega)) ?_
    refine TL.move hF rfl rfl ?_
    refine TL.on rfl rfl rfl (decide_eq_true (by omega)) ?_
    refine TL.call hF (Sorted_fn hall (by omega) (fun p hp => by have := hcw p hp; omega) hcw) rfl rfl ?_
    rintro _ _ ⟨a9, c9, rs, segs, rfl, t9, rfl, h9, _⟩
    have hrs : tx rs = tx qs := by rw [t9, t8, tx_catG]; exact sort_flat hord hLw hflat
    have hrl : rs.length = qs.length := by have := congrArg List.length hrs; rw [tx_len, tx_len] at this; exact this
    refine TL.on rfl rfl rfl (decide_eq_true (by omega)) ?_
    refine TL.move hF rfl rfl ?_
    refine TL.on rfl rfl rfl (decide_eq_true (by omega)) ?_
    have hel := EqualLists_fn (η := segs ++ [og]) (ca := c9) (cb := c8) (h9.up (fun z hz => List.mem_append_left _ hz)) h8.ro (by omega) (fun p hp => by
     have h1 : p.2.1 ∈ tx rs := List.mem_map_of_mem hp
     rw [hrs, t8] at h1
     have := hLw _ h1; omega)
    rw [decide_eq_true hrs] at hel
    refine TL.callV hF hel rfl rfl ?_
    refine TL.pickT hF rfl (decide_eq_true (by omega)) rfl rfl ?_
    refine TL.move hF rfl rfl ?_
    refine TL.on rfl rfl rfl rfl ?_
    refine TL.move hF rfl rfl ?_
    refine TL.on rfl rfl rfl rfl ?_
    refine TL.len hF rfl rfl ?_
    refine TL.on rfl rfl rfl rfl ?_
    refine TL.move hF rfl rfl ?_
    refine TL.on rfl rfl rfl rfl ?_
    refine TL.bin hF rfl rfl rfl rfl ?_
    refine TL.pickT hF rfl rfl rfl rfl ?_
    refine TL.move hF rfl rfl ?_
    refine TL.on rfl rfl rfl (decide_eq_true (by omega)) ?_
    refine TL.move hF rfl rfl ?_
    refine TL.on rfl rfl rfl (decide_eq_true (by omega)) ?_
    refine TL.len hF rfl rfl ?_
    refine TL.on rfl rfl rfl (decide_eq_true (by omega)) ?_
    refine TL.move hF rfl rfl ?_
    refine TL.on rfl rfl rfl (decide_eq_true (by omega)) ?_
    refine TL.bin hF rfl rfl rfl rfl ?_
    refine TL.pickT hF rfl (decide_eq_true (by omega)) rfl rfl ?_
    refine TL.move hF rfl rfl ?_
    refine TL.on rfl rfl rfl (decide_eq_true (by omega)) ?_
    refine TL.move hF rfl rfl ?_
    refine TL.on rfl rfl rfl (decide_eq_true (by omega)) ?_
    refine TL.move hF rfl rfl ?_
    refine TL.on rfl rfl rfl (decide_eq_true (by omega)) ?_
    have ham := among_fn (S := S3) (w0 := w3) (η := segs ++ [og]) (c := c5) (d := c8) h5.ro h8.ro (by omega) (by omega) (fun p hp => by
     have h1 : p.2.1 ∈ tx ws := List.mem_map_of_mem hp
     rw [htw] at h1
     have := hLw _ (wid_mem h1); omega)
    rw [htw, t8, among_wid] at ham
    refine TL.callV hF ham rfl rfl ?_
    refine TL.pickT hF rfl (decide_eq_true (by omega)) rfl rfl ?_
    refine TL.move hF rfl rfl ?_
    refine TL.on rfl rfl rfl rfl ?_
    refine TL.move hF rfl rfl ?_
    refine TL.on rfl rfl rfl rfl ?_
    have hap := apart_fn (S := S3) (w0 := w3) (η := segs ++ [og]) (c := c5) (w := w) h5.ro (by omega) (fun p hp => by
     have h1 : p.2.1 ∈ tx ws := List.mem_map_of_mem hp
     rw [htw] at h1
     exact hLw _ (wid_mem h1)) hw4
    rw [htw, decide_eq_true (widT_firsts hord hLw).symm] at hap
    refine TL.call hF hap rfl rfl ?_
    rintro _ _ ⟨rfl, segs2, rfl⟩
    refine TL.pickT hF rfl rfl rfl rfl ?_
    refine TL.move hF rfl rfl ?_
    refine TL.on rfl rfl rfl rfl ?_
    refine TL.call hF ordered_fn rfl rfl ?_
    rintro _ _ rfl
    refine TL.pickT hF rfl rfl rfl rfl ?_
    refine TL.assign hF rfl rfl ?_
    refine TL.nil ?_
    refine TQ.then_n ?_
    refine T.ret ?_
    exact TQ.retsF [2] _ hb rfl rfl rfl (fun _ => rfl)
end Go.Proofs.YteimjjpigohnhaaGreat
namespace Go.Proofs.YteimjjpigohnhaaGreat
open Go.Sl Go.ChangeShapes Go.WideShapes Go.ChangeAt Go.RowKit 
set_option maxRecDepth 100000 in
theorem orderChains_lifted (os : Os) (started : os.Started) (H : Type) (enc : TypeId × Value → H) :
    ReturnsInHanded {} Tryz.checked os 7 .any (Rows.orderChainsSpec.pre6 enc Tryz.prog Tryz.f7 Rows.orderChainsRow.domain false) (Rows.orderChainsSpec.post enc Tryz.prog Tryz.f7 false true false false) := by
  refine returnsInHanded_of_change (C := Tryz.checked) Tryz.own started (by kernel_rfl) Tryz.func7
    (ChangeSpec.witness6 (enc := enc) (C := Tryz.checked) false ⟨#[], #[.slice none 0 0], []⟩ 8 (by kernel_rfl) (by kernel_rfl) (by kernel_rfl) (by kernel_rfl)) ?_
  intro W base args ds gs before hval hW hcnd _
  have hW' := hW
  obtain ⟨p, q, hA0, hV, rfl, hfz, hnd⟩ := hW
  have hA : DataW.TrodAll enc Tryz.prog W 0 (fun _ => true) true [32] args.toList ds p := hA0
  have hval' : ∀ (j : Nat) t v, (#[32] : Array TypeId)[j]? = some t → args[j]? = some v → Value.okWide Tryz.prog W .any base t v := hval
  obtain ⟨v0, d0, rfl, rfl, h0⟩ := trodAll_one hA
  obtain ⟨_, _, _, rfl⟩ := okWide_slice u32 (hval' 0 32 v0 rfl rfl)
  obtain ⟨_, h0⟩ := h0
  obtain ⟨a0, ps0, c0, e0, hx0, hl0, hlx0⟩ := lists_read h0
  rw [e0] at hW' ⊢
  refine (calls_true (OrderChains_fn hx0 hl0 hlx0)).mono fun e W' ⟨he, hw⟩ => ⟨_, he, ?_⟩
  exact law_post (f := Tryz.f7) Tryz.laidOut rfl 4 rfl u4 hW' rfl (by decide +kernel) hw
theorem orderChains_holds : Rows.OrderChainsSaid :=
  OpenClaim.holds_of_wide 7 Tryz.f7 rfl rfl rfl rfl rfl rfl rfl ⟨rfl, rfl, rfl, rfl, rfl⟩ rfl rfl rfl rfl rfl (by kernel_rfl) Tryz.func7 (by kernel_rfl)
    (of_decide_eq_true (by kernel_rfl)) (by unfold Func.isWrapper; first | (rw [if_pos (by decide +kernel)]; kernel_rfl) | (rw [if_neg (by decide +kernel)]; exact ⟨rfl, rfl⟩))
    (fun os started H enc _ => orderChains_lifted os started H enc)
#print axioms orderChains_holds
end Go.Proofs.YteimjjpigohnhaaGreat
