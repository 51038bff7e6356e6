/- The least relation of each block, and whether blocks are denied. -/
import Derived.Test.YtdehpaikapbckaaW13
namespace Go.Proofs.Ytdehpaikapbckaa
open Go.Sl
variable {S : Nat → Prop} {w0 : World} {η : Heap}
def ofS (E : Nat → Nat → Bool) (n r : Nat) : Nat := ((List.range r).find? fun s => fwM E n r s && fwM E n s r).getD r
theorem gC_at {E : Nat → Nat → Bool} {n a b : Nat} (hn : n ≤ 48) (ha : a < n) (hb : b < n) : gC E n n (a * 48 + b) = fwM E n a b := by
  unfold gC
  rw [show (a * 48 + b) / 48 = a by omega, show (a * 48 + b) % 48 = b by omega]
  simp [ha, hb]
theorem gseg_at {E : Nat → Nat → Bool} {n a b k : Nat} (h : gseg b (gC E n n) ∈ η) (hn : n ≤ 48) (ha : a < n) (hk : k < n) : At S w0 η ⟨b, 0 + a * 48 + k * 1, none⟩ (.bool (fwM E n a k)) := by
  have h1 := own_listM (S := S) (w0 := w0) h (a * 48 + k) _ (rowC_get (by omega))
  rw [gC_at hn ha hk] at h1
  rw [show 0 + a * 48 + k * 1 = 0 + (a * 48 + k) by omega]; exact h1
theorem ofS_some {E : Nat → Nat → Bool} {n r s : Nat} (hs : s < r) (h : fwM E n r s = true ∧ fwM E n s r = true) (hl : ∀ x, x < s → ¬ (fwM E n r x = true ∧ fwM E n x r = true)) : ofS E n r = s := by
  unfold ofS
  rw [find_is hs (by simp [h.1, h.2]) (fun b hb => by rw [Bool.eq_false_iff]; intro h2; simp at h2; exact hl b hb h2)]
  rfl
theorem ofS_none {E : Nat → Nat → Bool} {n r : Nat} (hl : ∀ x, x < r → ¬ (fwM E n r x = true ∧ fwM E n x r = true)) : ofS E n r = r := by
  unfold ofS
  rw [List.find?_eq_none.2 (fun x hx => by intro h2; simp at h2 hx; exact hl x hx h2)]
  rfl

set_option maxHeartbeats 2000000 in
theorem of_fn {bw n : Nat} {U : Int → Int → Bool → Bool} {m : List ((Int × Int) × Bool)} (hn : n ≤ 48) (hw : Web η bw n U m) :
    Rt Try.prog 55 [ptr bw].toArray S w0 η (fun v η' => ∃ b, v = .slice (some ⟨b, 0, none⟩) n n ∧ η' = iseg b n (fun i => ((ofS (EN U) n i : Nat) : Int)) :: η) := by
  have hF := open_wide
  refine Rt.of (fn := Try.f55) Try.func55 rfl rfl ?_
  refine T.seq ?_
  refine T.region ?_
  refine TL.assign hF rfl rfl ?_
  refine TL.nil ?_
  refine TQ.then_n ?_
  refine T.seq ?_
  refine T.region ?_
  refine TL.move hF rfl rfl ?_
  refine TL.callV hF (leads_fn (n := n) hn hw) rfl rfl ?_
  refine TL.alloc hF rfl (fun b3 => ?_)
  rw [cells_rep 2304]
  refine TL.storeAs hF (rowC 2304 (gC (EN U) n n)) (rowC 2304 (gC (EN U) n n)) 0 (cs := List.replicate 2304 (.bool false)) rfl rfl rfl (rowC_len _ _) (rowC1 _ _) (by rw [List.length_replicate]; omega) (by rw [List.drop_of_length_le (by rw [List.length_replicate, rowC_len]; omega)]; simp) ?_
  refine TL.nil ?_
  refine TQ.then_n ?_
  refine T.seq ?_
  refine T.region ?_
  obtain ⟨bm, es, clock, hws, hwm, hwo⟩ := hw.ex
  refine TL.move hF rfl rfl ?_
  refine TL.nilCheck hF rfl rfl ?_
  refine TL.fieldAddr hF rfl rfl ?_
  refine TL.load hF rfl (own_mem (List.mem_cons_of_mem _ hws) rfl) rfl ?_
  refine TL.makeSlice hF (k := n) rfl rfl rfl (by omega) (by omega) rfl (fun b13 => ?_)
  refine TL.assign hF rfl rfl ?_
  refine TL.nil ?_
  refine TQ.then_n ?_
  refine T.seq ?_
  refine T.seq ?_
  refine T.region ?_
  refine TL.move hF rfl rfl ?_
  refine TL.len hF rfl rfl ?_
  refine TL.move hF rfl rfl ?_
  refine TL.nil ?_
  refine TQ.then_n ?_
  refine T.block ?_
  refine T.loop (ι := Nat) (fun k => k ≤ n) (fun k => [(0, ptr bw), (3, ptr b3), (4, .slice (some ⟨b13, 0, none⟩) n n), (14, .slice (some ⟨b13, 0, none⟩) n n), (15, .int .i64 (n : Int)), (16, .int .i64 (k : Int))]) (fun k => iseg b13 n (fun i => if i < k then ((ofS (EN U) n i : Nat) : Int) else 0) :: gseg b3 (gC (EN U) n n) :: η) (fun k => n - k) 0 (Nat.zero_le _) ⟨rfl, rfl, rfl, rfl, rfl, rfl, trivial⟩ (by rw [intC_zero]; rfl) ?_
  rintro k hk
  refine T.seq ?_
  refine T.region ?_
  refine TL.bin hF rfl rfl rfl rfl ?_
  refine TL.nil ?_
  refine TQ.then_n ?_
  refine T.seq ?_
  first | refine T.cond_d rfl (fun ht17 => ?_) (fun ht17 => ?_) | refine T.cond _ rfl (fun ht17 => ?_) (fun ht17 => ?_)
  · refine T.skip ?_
    refine TQ.then_n ?_
    refine T.seq ?_
    refine T.block ?_
    refine T.seq ?_
    refine T.region ?_
    refine TL.move hF rfl rfl ?_
    refine TL.assign hF rfl rfl ?_
    refine TL.nil ?_
    refine TQ.then_n ?_
    refine T.seq ?_
    refine T.region ?_
    refine TL.move hF rfl rfl ?_
    refine TL.move hF rfl rfl ?_
    refine TL.move hF rfl rfl ?_
    refine TL.indexAddr hF rfl rfl ⟨_, rfl, rfl⟩ (by omega) (by omega) rfl ?_
    refine TL.storeI hF 0 rfl rfl rfl rfl (by simp [intC_len]; omega) ?_
    refine TL.nil ?_
    refine TQ.then_n ?_
    refine T.seq ?_
    refine T.region ?_
    refine TL.move hF rfl rfl ?_
    refine TL.move hF rfl rfl ?_
    refine TL.nil ?_
    refine TQ.then_n ?_
    refine T.block ?_
    have hkn : k < n := by omega
    refine T.loop (ι := Nat) (fun s => s ≤ k ∧ ∀ x, x < s → ¬ (fwM (EN U) n k x = true ∧ fwM (EN U) n x k = true)) (fun s => [(0, ptr bw), (3, ptr b3), (4, .slice (some ⟨b13, 0, none⟩) n n), (14, .slice (some ⟨b13, 0, none⟩) n n), (15, .int .i64 (n : Int)), (16, .int .i64 (k : Int)), (5, .int .i64 (k : Int)), (23, .int .i64 (k : Int)), (24, .int .i64 (s : Int))]) (fun s => iseg b13 n (fun i => if i < k then ((ofS (EN U) n i : Nat) : Int) else if i = k then (k : Int) else 0) :: gseg b3 (gC (EN U) n n) :: η) (fun s => k - s) 0 ⟨Nat.zero_le _, by omega⟩ ⟨rfl, rfl, rfl, rfl, rfl, rfl, rfl, rfl, rfl, trivial⟩ (iseg_set (j := k) (by simp) (fun i hi => by by_cases h : i = k <;> simp [h])) ?_
    rintro s ⟨hs, hns⟩
    refine T.seq ?_
    refine T.region ?_
    refine TL.bin hF rfl rfl rfl rfl ?_
    refine TL.nil ?_
    refine TQ.then_n ?_
    refine T.seq ?_
    first | refine T.cond_d rfl (fun ht25 => ?_) (fun ht25 => ?_) | refine T.cond _ rfl (fun ht25 => ?_) (fun ht25 => ?_)
    · refine T.skip ?_
      refine TQ.then_n ?_
      refine T.seq ?_
      refine T.block ?_
      refine T.seq ?_
      refine T.region ?_
      refine TL.move hF rfl rfl ?_
      refine TL.assign hF rfl rfl ?_
      refine TL.nil ?_
      refine TQ.then_n ?_
      refine T.seq ?_
      refine T.region ?_
      refine TL.move hF rfl rfl ?_
      refine TL.move hF rfl rfl ?_
      refine TL.indexAddrA hF rfl rfl (by omega) (by omega) rfl ?_
      refine TL.indexAddrA hF rfl rfl (by omega) (by omega) rfl ?_
      refine TL.load hF rfl (gseg_at (E := EN U) (n := n) (a := k) (k := s) (by simp) hn hkn (by omega)) rfl ?_
      refine TL.move hF rfl rfl ?_
      refine TL.gb (t := 32) rfl (fun g10_32 => ?_) (fun g10_32 => ?_)
      · refine TL.on rfl rfl rfl g10_32 ?_
        refine TL.move hF rfl rfl ?_
        refine TL.on rfl rfl rfl g10_32 ?_
        refine TL.move hF rfl rfl ?_
        refine TL.on rfl rfl rfl g10_32 ?_
        refine TL.indexAddrA hF rfl rfl (by omega) (by omega) rfl ?_
        refine TL.on rfl rfl rfl g10_32 ?_
        refine TL.indexAddrA hF rfl rfl (by omega) (by omega) rfl ?_
        refine TL.on rfl rfl rfl g10_32 ?_
        refine TL.load hF rfl (gseg_at (E := EN U) (n := n) (a := s) (k := k) (by simp) hn (by omega) hkn) rfl ?_
        refine TL.pickT hF rfl g10_32 rfl rfl ?_
        refine TL.nil ?_
        refine TQ.then_n ?_
        refine T.cond _ rfl (fun ht38 => ?_) (fun ht38 => ?_)
        · refine T.seq ?_
          refine T.region ?_
          refine TL.move hF rfl rfl ?_
          refine TL.move hF rfl rfl ?_
          refine TL.move hF rfl rfl ?_
          refine TL.indexAddr hF rfl rfl ⟨_, rfl, rfl⟩ (by omega) (by omega) rfl ?_
          refine TL.storeI hF 0 rfl rfl rfl rfl (by simp [intC_len]; omega) ?_
          refine TL.nil ?_
          refine TQ.then_n ?_
          refine T.exit ?_
          refine TQ.block_o rfl ?_
          refine TQ.then_x ?_
          refine TQ.then_x ?_
          refine TQ.block_x ?_
          refine TQ.block_n ?_
          refine TQ.then_n ?_
          refine T.region ?_
          refine TL.add hF rfl rfl (by omega) (by omega) rfl ?_
          refine TL.move hF rfl rfl ?_
          refine TL.nil ?_
          exact TQ.round (k + 1) (by omega) (by omega) ⟨rfl, rfl, rfl, rfl, rfl, rfl, trivial⟩ (iseg_set (j := k) (by simp) (fun i hi => by
            by_cases h : i = k
            · subst h; simp [ofS_some (by omega) ⟨g10_32, ht38⟩ hns]
            · by_cases h2 : i < k
              · rw [if_pos (by omega), if_neg h, if_pos h2]
              · rw [if_neg (by omega), if_neg h, if_neg h2, if_neg h]))
        · refine T.skip ?_
          refine TQ.block_n ?_
          refine TQ.then_n ?_
          refine T.region ?_
          refine TL.add hF rfl rfl (by omega) (by omega) rfl ?_
          refine TL.move hF rfl rfl ?_
          refine TL.nil ?_
          exact TQ.round (s + 1) ⟨by omega, fun x hx h => by
            by_cases hxs : x = s
            · subst hxs; simp_all
            · exact hns x (by omega) h⟩ (by omega) ⟨rfl, rfl, rfl, rfl, rfl, rfl, rfl, rfl, rfl, trivial⟩ rfl
      · refine TL.off hF rfl rfl rfl g10_32 rfl ?_
        refine TL.off hF rfl rfl rfl g10_32 rfl ?_
        refine TL.off hF rfl rfl rfl g10_32 rfl ?_
        refine TL.off hF rfl rfl rfl g10_32 rfl ?_
        refine TL.off hF rfl rfl rfl g10_32 rfl ?_
        refine TL.pickF hF rfl g10_32 rfl rfl ?_
        refine TL.nil ?_
        refine TQ.then_n ?_
        refine T.cond_f rfl rfl ?_
        refine T.skip ?_
        refine TQ.block_n ?_
        refine TQ.then_n ?_
        refine T.region ?_
        refine TL.add hF rfl rfl (by omega) (by omega) rfl ?_
        refine TL.move hF rfl rfl ?_
        refine TL.nil ?_
        exact TQ.round (s + 1) ⟨by omega, fun x hx h => by
          by_cases hxs : x = s
          · subst hxs; simp_all
          · exact hns x (by omega) h⟩ (by omega) ⟨rfl, rfl, rfl, rfl, rfl, rfl, rfl, rfl, rfl, trivial⟩ rfl
    · refine T.exit ?_
      refine TQ.then_x ?_
      refine TQ.then_x ?_
      refine TQ.block_x ?_
      refine TQ.block_n ?_
      refine TQ.then_n ?_
      refine T.region ?_
      refine TL.add hF rfl rfl (by omega) (by omega) rfl ?_
      refine TL.move hF rfl rfl ?_
      refine TL.nil ?_
      exact TQ.round (k + 1) (by omega) (by omega) ⟨rfl, rfl, rfl, rfl, rfl, rfl, trivial⟩ (iseg_congr (fun i hi => by
        by_cases h : i = k
        · subst h; rw [if_neg (by omega), if_pos rfl, if_pos (by omega), ofS_none (fun x hx => hns x (by omega))]
        · by_cases h2 : i < k
          · rw [if_pos h2, if_pos (by omega)]
          · rw [if_neg h2, if_neg h, if_neg (by omega)]))
  · refine T.exit ?_
    refine TQ.then_x ?_
    refine TQ.then_x ?_
    refine TQ.block_x ?_
    refine TQ.then_n ?_
    refine T.seq ?_
    refine T.region ?_
    refine TL.move hF rfl rfl ?_
    refine TL.assign hF rfl rfl ?_
    refine TL.nil ?_
    refine TQ.then_n ?_
    refine T.ret ?_
    have hkn : k = n := by omega
    subst hkn
    refine TQ.hsub (iseg b13 k (fun i => if i < k then ((ofS (EN U) k i : Nat) : Int) else 0) :: η) (List.Sublist.cons_cons _ (List.sublist_cons_self _ _)) ?_
    refine TQ.rets [2] _ rfl rfl rfl ?_
    exact ⟨b13, rfl, iseg_congr (fun i hi => by simp [hi])⟩
/-- Two relations are of one block just if they have the same least one. -/
theorem ofS_le {E : Nat → Nat → Bool} {n r : Nat} : ofS E n r ≤ r := by
  unfold ofS
  cases h : (List.range r).find? fun s => fwM E n r s && fwM E n s r with
  | none => simp
  | some s => have := List.mem_of_find?_eq_some h; simp at this ⊢; omega
theorem ofS_in {E : Nat → Nat → Bool} {n r : Nat} : ofS E n r = r ∨ (fwM E n r (ofS E n r) = true ∧ fwM E n (ofS E n r) r = true) := by
  unfold ofS
  cases h : (List.range r).find? fun s => fwM E n r s && fwM E n s r with
  | none => exact .inl rfl
  | some s => have := List.find?_some h; simp at this; exact .inr this
theorem ofS_min {E : Nat → Nat → Bool} {n r s : Nat} (h1 : fwM E n r s = true) (h2 : fwM E n s r = true) : ofS E n r ≤ s := by
  apply Classical.byContradiction
  intro hc
  have hle := ofS_le (E := E) (n := n) (r := r)
  have hsr : s < r := by omega
  unfold ofS at hc
  cases h : (List.range r).find? fun s => fwM E n r s && fwM E n s r with
  | none =>
    have := List.find?_eq_none.1 h s (by simpa using hsr)
    simp [h1, h2] at this
  | some x =>
    rw [h] at hc
    simp only [Option.getD_some] at hc
    obtain ⟨hx, xs, ys, he, hb⟩ := List.find?_eq_some_iff_append.1 h
    have hsm : s ∈ List.range r := by simpa using hsr
    have hpw : (List.range r).Pairwise (· < ·) := List.pairwise_lt_range
    rw [he] at hsm hpw
    rcases List.mem_append.1 hsm with h3 | h3
    · have := hb s h3; simp [h1, h2] at this
    · rcases List.mem_cons.1 h3 with h4 | h4
      · omega
      · have := (List.pairwise_append.1 hpw).2.1
        have := (List.pairwise_cons.1 this).1 s h4
        omega
theorem ofS_eq {E : Nat → Nat → Bool} {n a b : Nat} (ha : a < n) (hb : b < n) : ofS E n a = ofS E n b ↔ (a = b ∨ (fwM E n a b = true ∧ fwM E n b a = true)) := by
  have la := ofS_le (E := E) (n := n) (r := a)
  have lb := ofS_le (E := E) (n := n) (r := b)
  constructor
  · intro h
    have ha2 := ofS_in (E := E) (n := n) (r := a)
    have hb2 := ofS_in (E := E) (n := n) (r := b)
    rw [h] at ha2 la
    rcases ha2 with h1 | h1 <;> rcases hb2 with h2 | h2
    · left; omega
    · right; rw [h1] at h2; exact ⟨h2.2, h2.1⟩
    · right; rw [h2] at h1; exact h1
    · right; exact ⟨fw_trans (by omega) h1.1 h2.2, fw_trans (by omega) h2.1 h1.2⟩
  · rintro (h | ⟨h1, h2⟩)
    · rw [h]
    · have key : ∀ {x y : Nat}, x < n → y < n → fwM E n x y = true → fwM E n y x = true → ofS E n x ≤ ofS E n y := by
        intro x y hx hy h1 h2
        have ly := ofS_le (E := E) (n := n) (r := y)
        rcases ofS_in (E := E) (n := n) (r := y) with h3 | ⟨h3, h4⟩
        · rw [h3]; exact ofS_min h1 h2
        · exact ofS_min (fw_trans hy h1 h3) (fw_trans hy h4 h2)
      exact Nat.le_antisymm (key ha hb h1 h2) (key hb ha h2 h1)

abbrev DN (U : Int → Int → Bool → Bool) (a b : Nat) : Bool := U a b true
/-- What is known of the uses. -/
structure UOk (U : Int → Int → Bool → Bool) (n : Nat) : Prop where
  le : ∀ a b, U a b true = true → U a b false = true
  rg : ∀ a b, U a b false = true → (0 ≤ a ∧ a < n) ∧ (0 ≤ b ∧ b < n)
theorem WOk.entry {U : Int → Int → Bool → Bool} {m : List ((Int × Int) × Bool)} (h : WOk U m) (hn : (m.map (·.1)).Nodup) {p : (Int × Int) × Bool} (hp : p ∈ m) : U p.1.1 p.1.2 false = true ∧ p.2 = U p.1.1 p.1.2 true := by
  obtain ⟨⟨a, b⟩, d⟩ := p
  have h1 := mget_of_mem hn hp
  rw [h a b] at h1
  split at h1
  · rename_i h2; simp only at h1 ⊢; cases h1; exact ⟨h2, rfl⟩
  · cases h1
theorem WOk.has {U : Int → Int → Bool → Bool} {m : List ((Int × Int) × Bool)} (h : WOk U m) {a b : Int} (hu : U a b false = true) : ((a, b), U a b true) ∈ m := by
  apply mget_mem; rw [h a b, if_pos hu]
theorem done_len {m : List ((Int × Int) × Bool)} {done : List (Int × Int)} (h1 : done.Nodup) (h2 : ∀ x ∈ done, x ∈ m.map (·.1)) {p : (Int × Int) × Bool} (hp : p ∈ m) (hd : p.1 ∉ done) : done.length < m.length := by
  have := (List.nodup_cons.2 ⟨hd, h1⟩).length_le_of_subset (l₂ := m.map (·.1)) (fun x hx => by
    rcases List.mem_cons.1 hx with rfl | hx
    · exact List.mem_map.2 ⟨_, hp, rfl⟩
    · exact h2 x hx)
  simp at this; omega

set_option maxHeartbeats 2000000 in
theorem ordered_prog {bw n : Nat} {U : Int → Int → Bool → Bool} {m : List ((Int × Int) × Bool)} (hn : n ≤ 48) (hw : Web η bw n U m) (hU : UOk U n) :
    RtE Try.prog 27 [ptr bw].toArray S w0 η (fun v η' => ordB n (DN U) (fwM (EN U) n) = true ∧ η' = η) (fun ch η' => ordB n (DN U) (fwM (EN U) n) = false ∧ ch = stopV 10 ∧ η' = η) := by
  have hF := open_wide
  refine RtE.of (fn := Try.f27) Try.func27 rfl rfl ?_
  refine T.seq ?_
  refine T.region ?_
  refine TL.move hF rfl rfl ?_
  refine TL.call hF (of_fn (n := n) hn hw) rfl rfl ?_
  rintro _ _ ⟨bo, rfl, rfl⟩
  refine TL.assign hF rfl rfl ?_
  refine TL.nil ?_
  refine TQ.then_n ?_
  refine T.seq ?_
  refine T.region ?_
  obtain ⟨bm, es, clock, hws, hwm, hwo⟩ := hw.ex
  refine TL.move hF rfl rfl ?_
  refine TL.nilCheck hF rfl rfl ?_
  refine TL.fieldAddr hF rfl rfl ?_
  refine TL.load hF rfl (own_mem (List.mem_cons_of_mem _ hws) rfl) rfl ?_
  refine TL.range hF rfl (List.mem_cons_of_mem _ hwm) rfl (fun b11 => ?_)
  refine TL.nil ?_
  refine TQ.then_n ?_
  refine T.block ?_
  refine T.loop (ι := Array Nat × List (Int × Int)) (fun i => ItOk m es i.1 i.2 ∧ i.2.Nodup ∧ (∀ x ∈ i.2, x ∈ m.map (·.1)) ∧ ∀ p ∈ m, p.1 ∈ i.2 → p.2 = true → ofS (EN U) n p.1.1.toNat ≠ ofS (EN U) n p.1.2.toNat) (fun i => [(2, .slice (some ⟨bo, 0, none⟩) n n), (11, ptr b11)]) (fun i => [(b11, .mapIter (some bm) clock i.1 clock)] :: iseg bo n (fun i => ((ofS (EN U) n i : Nat) : Int)) :: η) (fun i => m.length - i.2.length) (#[], []) ⟨ItOk.start m es, by simp, by simp, by simp⟩ ⟨rfl, rfl, trivial⟩ rfl ?_
  rintro ⟨seen, done⟩ ⟨hit, hnd, hsub, hok⟩
  simp only at hit hnd hsub hok
  refine T.seq ?_
  refine T.region ?_
  refine TL.next hF 0 rfl rfl (List.mem_cons_of_mem _ (List.mem_cons_of_mem _ hwm)) hwo hit rfl (fun hover => ?_) (fun p12 seen12 hp12 hnd12 hit12 hent12 => ?_)
  · refine TL.extract hF rfl rfl rfl ?_
    refine TL.nil ?_
    refine TQ.then_n ?_
    refine T.seq ?_
    refine T.cond_f rfl rfl ?_
    refine T.exit ?_
    refine TQ.then_x ?_
    refine TQ.then_x ?_
    refine TQ.block_x ?_
    refine TQ.norm ?_
    refine TQ.pop ?_
    refine TQ.pop ?_
    refine TQ.retsE [] _ rfl rfl rfl ?_
    refine ⟨ordB_iff.2 fun a b ha hb hd hx => ?_, rfl⟩
    · have hu := hU.le a b hd
      have hin := hw.ok.has hu
      have h3 := hok _ hin (hover _ hin) hd
      simp only [Int.toNat_natCast] at h3
      refine h3 ((ofS_eq ha hb).2 ?_)
      rcases hx with h | h
      · exact .inl h
      · exact .inr ⟨fw_E hu, h⟩
  · refine TL.extract hF rfl rfl rfl ?_
    refine TL.nil ?_
    refine TQ.then_n ?_
    refine T.seq ?_
    refine T.cond_t rfl rfl ?_
    refine T.skip ?_
    refine TQ.then_n ?_
    refine T.block ?_
    refine T.seq ?_
    refine T.region ?_
    refine TL.entry hF rfl List.mem_cons_self (List.mem_cons_of_mem _ (List.mem_cons_of_mem _ hwm)) hwo hent12 (K := KU) (V := Value.bool) (p := p12) rfl ?_
    refine TL.extract hF rfl rfl rfl ?_
    refine TL.extract hF rfl rfl rfl ?_
    refine TL.alloc hF rfl (fun b3 => ?_)
    refine TL.storeAI hF [.int .i64 p12.1.1, .int .i64 p12.1.2] 0 rfl rfl rfl rfl (by simp [Value.oneCell']) (by simp [Value.cells]) ?_
    refine TL.assign hF rfl rfl ?_
    refine TL.nil ?_
    refine TQ.then_n ?_
    cases hd : p12.2
    · obtain ⟨hu, hpd⟩ := hw.ok.entry hwo.nd hp12
      obtain ⟨⟨ha0, han⟩, hb0, hbn⟩ := hU.rg _ _ hu
      refine T.draw ?_
      refine DR.stepV [_] rfl [(4, _, none)] rfl rfl ⟨⟨rfl, by kernel_rfl⟩, trivial⟩ (fun ext => TL.move hF rfl rfl TL.fin) ?_
      refine DR.stepV [_, _] rfl [(17, _, some 0)] rfl rfl ⟨⟨rfl, rfl, rfl⟩, trivial⟩ (fun ext => TL.not hF rfl rfl TL.fin) ?_
      refine DR.stepV [_, _, _] rfl [(18, _, some 1)] rfl rfl ⟨⟨rfl, rfl, rfl⟩, trivial⟩ (fun ext => TL.move hF rfl rfl TL.fin) ?_
      refine DR.stepV [_, _, _, _] rfl [(2, _, none), (19, _, some 2)] rfl rfl ⟨⟨rfl, by kernel_rfl⟩, ⟨rfl, rfl, rfl⟩, trivial⟩ (fun ext => TL.off hF rfl rfl rfl rfl rfl TL.fin) ?_
      refine DR.stepV [_, _, _, _, _] rfl [(3, _, none), (19, _, some 2)] rfl rfl ⟨⟨rfl, by kernel_rfl⟩, ⟨rfl, rfl, rfl⟩, trivial⟩ (fun ext => TL.off hF rfl rfl rfl rfl rfl TL.fin) ?_
      refine DR.stepV [_, _, _, _, _, _] rfl [(21, _, some 4), (19, _, some 2)] rfl rfl ⟨⟨rfl, rfl, rfl⟩, ⟨rfl, rfl, rfl⟩, trivial⟩ (fun ext => TL.off hF rfl rfl rfl rfl rfl TL.fin) ?_
      refine DR.stepV [_, _, _, _, _, _, _] rfl [(20, _, some 3), (22, _, some 5), (19, _, some 2)] rfl rfl ⟨⟨rfl, rfl, rfl⟩, ⟨rfl, rfl, rfl⟩, ⟨rfl, rfl, rfl⟩, trivial⟩ (fun ext => TL.off hF rfl rfl rfl rfl rfl TL.fin) ?_
      refine DR.stepV [_, _, _, _, _, _, _, _] rfl [(23, _, some 6), (19, _, some 2)] rfl rfl ⟨⟨rfl, rfl, rfl⟩, ⟨rfl, rfl, rfl⟩, trivial⟩ (fun ext => TL.off hF rfl rfl rfl rfl rfl TL.fin) ?_
      refine DR.stepV [_, _, _, _, _, _, _, _, _] rfl [(2, _, none), (19, _, some 2)] rfl rfl ⟨⟨rfl, by kernel_rfl⟩, ⟨rfl, rfl, rfl⟩, trivial⟩ (fun ext => TL.off hF rfl rfl rfl rfl rfl TL.fin) ?_
      refine DR.stepV [_, _, _, _, _, _, _, _, _, _] rfl [(3, _, none), (19, _, some 2)] rfl rfl ⟨⟨rfl, by kernel_rfl⟩, ⟨rfl, rfl, rfl⟩, trivial⟩ (fun ext => TL.off hF rfl rfl rfl rfl rfl TL.fin) ?_
      refine DR.stepV [_, _, _, _, _, _, _, _, _, _, _] rfl [(26, _, some 9), (19, _, some 2)] rfl rfl ⟨⟨rfl, rfl, rfl⟩, ⟨rfl, rfl, rfl⟩, trivial⟩ (fun ext => TL.off hF rfl rfl rfl rfl rfl TL.fin) ?_
      refine DR.stepV [_, _, _, _, _, _, _, _, _, _, _, _] rfl [(25, _, some 8), (27, _, some 10), (19, _, some 2)] rfl rfl ⟨⟨rfl, rfl, rfl⟩, ⟨rfl, rfl, rfl⟩, ⟨rfl, rfl, rfl⟩, trivial⟩ (fun ext => TL.off hF rfl rfl rfl rfl rfl TL.fin) ?_
      refine DR.stepV [_, _, _, _, _, _, _, _, _, _, _, _, _] rfl [(28, _, some 11), (19, _, some 2)] rfl rfl ⟨⟨rfl, rfl, rfl⟩, ⟨rfl, rfl, rfl⟩, trivial⟩ (fun ext => TL.off hF rfl rfl rfl rfl rfl TL.fin) ?_
      refine DR.done [(29, _), (28, _), (27, _), (26, _), (25, _), (24, _), (23, _), (22, _), (21, _), (20, _), (19, _), (18, _), (17, _)] [_, _, _] mixed (by kernel_rfl) (by kernel_rfl) (by kernel_rfl) rfl rfl ?_
      refine TL.off hF rfl rfl rfl rfl rfl ?_
      refine TL.pickT hF rfl rfl rfl rfl ?_
      refine TL.callM hF (must_fn _ 10) rfl rfl (fun h1 v32 => ?_) (fun h1 => ?_)
      · 
        refine TL.nil ?_
        refine TQ.block_n ?_
        have hlt := done_len hnd hsub hp12 hnd12
        refine TQ.pop ?_
        refine TQ.round (seen12, p12.1 :: done) ⟨hit12, List.nodup_cons.2 ⟨hnd12, hnd⟩, fun x hx => ?_, fun p hp hpd2 ht => ?_⟩ (by simp only [List.length_cons]; omega) ⟨rfl, rfl, trivial⟩ rfl
        · rcases List.mem_cons.1 hx with rfl | hx
          · exact List.mem_map.2 ⟨_, hp12, rfl⟩
          · exact hsub x hx
        · rcases List.mem_cons.1 hpd2 with he | hx
          · have h6 := mget_of_mem hwo.nd hp
            have h2 := mget_of_mem hwo.nd hp12
            rw [he, h2] at h6
            have h3 : p12.2 = p.2 := by simpa using h6
            rw [hd, ht] at h3; cases h3
          · exact hok p hp hx ht
      · cases h1
    · obtain ⟨hu, hpd⟩ := hw.ok.entry hwo.nd hp12
      obtain ⟨⟨ha0, han⟩, hb0, hbn⟩ := hU.rg _ _ hu
      refine T.draw ?_
      refine DR.stepV [_] rfl [(4, _, none)] rfl rfl ⟨⟨rfl, by kernel_rfl⟩, trivial⟩ (fun ext => TL.move hF rfl rfl TL.fin) ?_
      refine DR.stepV [_, _] rfl [(17, _, some 0)] rfl rfl ⟨⟨rfl, rfl, rfl⟩, trivial⟩ (fun ext => TL.not hF rfl rfl TL.fin) ?_
      refine DR.stepV [_, _, _] rfl [(18, _, some 1)] rfl rfl ⟨⟨rfl, rfl, rfl⟩, trivial⟩ (fun ext => TL.move hF rfl rfl TL.fin) ?_
      refine DR.stepV [_, _, _, _] rfl [(2, _, none), (19, _, some 2)] rfl rfl ⟨⟨rfl, by kernel_rfl⟩, ⟨rfl, rfl, rfl⟩, trivial⟩ (fun ext => TL.on rfl rfl rfl rfl <| TL.move hF rfl rfl TL.fin) ?_
      refine DR.stepV [_, _, _, _, _] rfl [(3, _, none), (19, _, some 2)] rfl rfl ⟨⟨rfl, by kernel_rfl⟩, ⟨rfl, rfl, rfl⟩, trivial⟩ (fun ext => TL.on rfl rfl rfl rfl <| TL.fieldAddr hF rfl rfl TL.fin) ?_
      refine DR.stepV [_, _, _, _, _, _] rfl [(21, _, some 4), (19, _, some 2)] rfl rfl ⟨⟨rfl, rfl, rfl⟩, ⟨rfl, rfl, rfl⟩, trivial⟩ (fun ext => TL.on rfl rfl rfl rfl <| TL.load hF rfl (own_list (i := 0) (cs := [.int .i64 p12.1.1, .int .i64 p12.1.2]) rfl 0 _ rfl) rfl TL.fin) ?_
      refine DR.stepV [_, _, _, _, _, _, _] rfl [(20, _, some 3), (22, _, some 5), (19, _, some 2)] rfl rfl ⟨⟨rfl, rfl, rfl⟩, ⟨rfl, rfl, rfl⟩, ⟨rfl, rfl, rfl⟩, trivial⟩ (fun ext => TL.on rfl rfl rfl rfl <| TL.indexAddr hF rfl rfl ⟨_, rfl, rfl⟩ (by omega) (by omega) rfl TL.fin) ?_
      refine DR.stepV [_, _, _, _, _, _, _, _] rfl [(23, _, some 6), (19, _, some 2)] rfl rfl ⟨⟨rfl, rfl, rfl⟩, ⟨rfl, rfl, rfl⟩, trivial⟩ (fun ext => TL.on rfl rfl rfl rfl <| TL.load hF rfl (iseg_at (f := (fun i => ((ofS (EN U) n i : Nat) : Int))) (n := n) (b := bo) (j := p12.1.1.toNat) (by simp) (by omega)) rfl TL.fin) ?_
      refine DR.stepV [_, _, _, _, _, _, _, _, _] rfl [(2, _, none), (19, _, some 2)] rfl rfl ⟨⟨rfl, by kernel_rfl⟩, ⟨rfl, rfl, rfl⟩, trivial⟩ (fun ext => TL.on rfl rfl rfl rfl <| TL.move hF rfl rfl TL.fin) ?_
      refine DR.stepV [_, _, _, _, _, _, _, _, _, _] rfl [(3, _, none), (19, _, some 2)] rfl rfl ⟨⟨rfl, by kernel_rfl⟩, ⟨rfl, rfl, rfl⟩, trivial⟩ (fun ext => TL.on rfl rfl rfl rfl <| TL.fieldAddr hF rfl rfl TL.fin) ?_
      refine DR.stepV [_, _, _, _, _, _, _, _, _, _, _] rfl [(26, _, some 9), (19, _, some 2)] rfl rfl ⟨⟨rfl, rfl, rfl⟩, ⟨rfl, rfl, rfl⟩, trivial⟩ (fun ext => TL.on rfl rfl rfl rfl <| TL.load hF rfl (own_list (i := 0) (cs := [.int .i64 p12.1.1, .int .i64 p12.1.2]) rfl 1 _ rfl) rfl TL.fin) ?_
      refine DR.stepV [_, _, _, _, _, _, _, _, _, _, _, _] rfl [(25, _, some 8), (27, _, some 10), (19, _, some 2)] rfl rfl ⟨⟨rfl, rfl, rfl⟩, ⟨rfl, rfl, rfl⟩, ⟨rfl, rfl, rfl⟩, trivial⟩ (fun ext => TL.on rfl rfl rfl rfl <| TL.indexAddr hF rfl rfl ⟨_, rfl, rfl⟩ (by omega) (by omega) rfl TL.fin) ?_
      refine DR.stepV [_, _, _, _, _, _, _, _, _, _, _, _, _] rfl [(28, _, some 11), (19, _, some 2)] rfl rfl ⟨⟨rfl, rfl, rfl⟩, ⟨rfl, rfl, rfl⟩, trivial⟩ (fun ext => TL.on rfl rfl rfl rfl <| TL.load hF rfl (iseg_at (f := (fun i => ((ofS (EN U) n i : Nat) : Int))) (n := n) (b := bo) (j := p12.1.2.toNat) (by simp) (by omega)) rfl TL.fin) ?_
      refine DR.done [(29, _), (28, _), (27, _), (26, _), (25, _), (24, _), (23, _), (22, _), (21, _), (20, _), (19, _), (18, _), (17, _)] [_, _, _] mixed (by kernel_rfl) (by kernel_rfl) (by kernel_rfl) rfl rfl ?_
      refine TL.on rfl rfl rfl rfl ?_
      refine TL.bin hF rfl rfl rfl rfl ?_
      refine TL.pickF hF rfl rfl rfl rfl ?_
      refine TL.callM hF (must_fn _ 10) rfl rfl (fun h1 v32 => ?_) (fun h1 => ?_)
      · 
        refine TL.nil ?_
        refine TQ.block_n ?_
        have hlt := done_len hnd hsub hp12 hnd12
        refine TQ.pop ?_
        refine TQ.round (seen12, p12.1 :: done) ⟨hit12, List.nodup_cons.2 ⟨hnd12, hnd⟩, fun x hx => ?_, fun p hp hpd2 ht => ?_⟩ (by simp only [List.length_cons]; omega) ⟨rfl, rfl, trivial⟩ rfl
        · rcases List.mem_cons.1 hx with rfl | hx
          · exact List.mem_map.2 ⟨_, hp12, rfl⟩
          · exact hsub x hx
        · rcases List.mem_cons.1 hpd2 with he | hx
          · have h6 := mget_of_mem hwo.nd hp
            have h2 := mget_of_mem hwo.nd hp12
            rw [he, h2] at h6
            rw [he]; have h4 := of_decide_eq_true h1; intro h5; exact h4 (by rw [h5])
          · exact hok p hp hx ht
      · skip
        refine TQ.block_p ?_
        refine TQ.then_p ?_
        refine TQ.block_p ?_
        have hof : ofS (EN U) n p12.1.1.toNat = ofS (EN U) n p12.1.2.toNat := by have := of_decide_eq_false h1; omega
        refine TQ.hsub η (List.Sublist.cons _ (List.Sublist.cons _ (List.Sublist.cons _ (List.Sublist.refl _)))) ?_
        refine TQ.panicE ⟨?_, rfl, rfl⟩
        rw [Bool.eq_false_iff]; intro hob
        have hb := ordB_iff.1 hob p12.1.1.toNat p12.1.2.toNat (by omega) (by omega) (by show U (p12.1.1.toNat : Nat) (p12.1.2.toNat : Nat) true = true; rw [show ((p12.1.1.toNat : Nat) : Int) = p12.1.1 by omega, show ((p12.1.2.toNat : Nat) : Int) = p12.1.2 by omega, ← hpd]; exact hd)
        rcases (ofS_eq (by omega) (by omega)).1 hof with h | h
        · exact hb (.inl h)
        · exact hb (.inr h.2)
end Go.Proofs.Ytdehpaikapbckaa
