/- What the program says of ways: all of them, and the least of each block. -/
import Derived.Test.YtdehpaikapbckaaW12
namespace Go.Proofs.Ytdehpaikapbckaa
open Go.Sl
variable {S : Nat → Prop} {w0 : World} {η : Heap}
theorem rowC_part {N w k : Nat} {G G' A : Nat → Bool} (h : (k + 1) * w ≤ N) (h1 : ∀ i, i < N → (i < k * w ∨ k * w + w ≤ i) → G' i = G i) (h2 : ∀ j, j < w → G' (k * w + j) = A j) :
    (rowC N G).take (k * w) ++ rowC w A ++ (rowC N G).drop (k * w + (rowC w A).length) = rowC N G' := by
  have hkw : k * w + w ≤ N := by rw [Nat.add_mul] at h; omega
  apply List.ext_getElem?
  intro i
  rw [rowC_len]
  by_cases hi : i < N
  · rw [rowC_get hi]
    rcases Nat.lt_or_ge i (k * w) with h3 | h3
    · rw [List.append_assoc, List.getElem?_append_left (by simp [rowC_len]; omega), List.getElem?_take_of_lt h3, rowC_get hi, h1 i hi (.inl h3)]
    · rcases Nat.lt_or_ge i (k * w + w) with h4 | h4
      · rw [List.append_assoc, List.getElem?_append_right (by simp [rowC_len]; omega), List.length_take, rowC_len, Nat.min_eq_left (by omega), List.getElem?_append_left (by rw [rowC_len]; omega), rowC_get (by omega), ← h2 _ (by omega)]
        congr 3; omega
      · rw [List.getElem?_append_right (by simp [rowC_len]; omega), List.getElem?_drop]
        have e : k * w + w + (i - (List.take (k * w) (rowC N G) ++ rowC w A).length) = i := by simp [rowC_len]; omega
        rw [e, rowC_get hi, h1 i hi (.inr h4)]
  · have e1 : (rowC N G')[i]? = none := List.getElem?_eq_none (by rw [rowC_len]; omega)
    rw [e1]; apply List.getElem?_eq_none; simp [rowC_len]; omega
theorem rowC_same {N : Nat} {G : Nat → Bool} : (rowC N G).take 0 ++ rowC N G ++ (rowC N G).drop (0 + (rowC N G).length) = rowC N G := by simp
theorem cells_rep (N : Nat) (x : Value) : (Value.agg (Array.replicate N x)).cells = (List.replicate N x).toArray := by simp [Value.cells]
theorem rowC1 (N : Nat) (G : Nat → Bool) : ∀ v ∈ rowC N G, v.oneCell' = true := by intro v hv; obtain ⟨b, _, rfl⟩ := List.mem_map.1 hv; rfl

set_option maxHeartbeats 2000000 in
theorem reached_fn {bw n r c : Nat} {U : Int → Int → Bool → Bool} {m : List ((Int × Int) × Bool)} {a : Option Addr} (hn : n ≤ 48) (hr : r < n) (hw : Web η bw n U m) (ha : Row S w0 η a [.int .i64 (r : Int)]) :
    Rt Try.prog 64 [ptr bw, .slice a 1 c].toArray S w0 η (fun v η' => ∃ A, v = .agg (rowC 48 A).toArray ∧ η' = η ∧ LookOk (EN U) n r (fun _ => false) A) := by
  have hF := open_wide
  refine Rt.of (fn := Try.f64) Try.func64 rfl rfl ?_
  refine T.seq ?_
  refine T.region ?_
  refine TL.box hF rfl rfl (fun b2 => ?_)
  refine TL.alloc hF rfl (fun b4 => ?_)
  refine TL.nil ?_
  refine TQ.then_n ?_
  refine T.seq ?_
  refine T.region ?_
  refine TL.callV hF (all_fn) rfl rfl ?_
  refine TL.indexR hF rfl rfl (r := .agg #[fnV 60]) (fun w => by kernel_rfl) rfl ?_
  refine TL.alloc hF rfl (fun b5 => ?_)
  refine TL.storeAI hF [fnV 60] 0 rfl rfl rfl rfl (by simp [Value.oneCell']) (by simp [Value.cells]) ?_
  refine TL.nil ?_
  refine TQ.then_n ?_
  refine T.seq ?_
  refine T.region ?_
  refine TL.alloc hF rfl (fun b6 => ?_)
  refine TL.nil ?_
  refine TQ.then_n ?_
  refine T.seq ?_
  refine T.region ?_
  refine TL.makeFunc hF rfl rfl rfl ?_
  first | refine TL.storeI hF 0 rfl rfl rfl rfl (by first | decide | simp) ?_ | refine TL.storeI hF 1 rfl rfl rfl rfl (by first | decide | simp) ?_ | refine TL.storeI hF 2 rfl rfl rfl rfl (by first | decide | simp) ?_ | refine TL.storeI hF 3 rfl rfl rfl rfl (by first | decide | simp) ?_
  refine TL.nil ?_
  refine TQ.then_n ?_
  refine T.seq ?_
  refine T.seq ?_
  refine T.region ?_
  refine TL.move hF rfl rfl ?_
  refine TL.len hF rfl rfl ?_
  refine TL.move hF rfl rfl ?_
  refine TL.nil ?_
  refine TQ.then_n ?_
  refine T.block ?_
  refine T.hperm (isseg b4 (fun _ => false) :: [(b6, .cells #[.func (.func 69) #[] #[ptr b2, ptr b5, ptr b4, ptr b6]] 88 (0, 0))] :: [(b5, .cells #[fnV 60] 72 (0, 0))] :: [(b2, .cells #[ptr bw] 59 (0, 0))] :: η) (by
    have e : (Value.agg (Array.replicate 48 (.bool false))).cells = (rowC 48 fun _ => false).toArray := by kernel_rfl
    exact (List.perm_middle (l₁ := [_, _])).symm) ?_
  refine T.loop (ι := Nat × (Nat → Bool)) (fun i => (i.1 = 0 ∧ i.2 = fun _ => false) ∨ (i.1 = 1 ∧ LookOk (EN U) n r (fun _ => false) i.2)) (fun i => [(4, ptr b4), (6, ptr b6), (12, .slice a 1 c), (13, .int .i64 1), (14, .int .i64 (i.1 : Int))]) (fun i => isseg b4 i.2 :: [(b6, .cells #[.func (.func 69) #[] #[ptr b2, ptr b5, ptr b4, ptr b6]] 88 (0, 0))] :: [(b5, .cells #[fnV 60] 72 (0, 0))] :: [(b2, .cells #[ptr bw] 59 (0, 0))] :: η) (fun i => 1 - i.1) (0, fun _ => false) (.inl ⟨rfl, rfl⟩) ⟨rfl, rfl, rfl, rfl, rfl, trivial⟩ rfl ?_
  rintro ⟨k, A⟩ hkA
  simp only at hkA
  refine T.seq ?_
  refine T.region ?_
  refine TL.bin hF rfl rfl rfl rfl ?_
  refine TL.nil ?_
  refine TQ.then_n ?_
  refine T.seq ?_
  first | refine T.cond_d rfl (fun ht15 => ?_) (fun ht15 => ?_) | refine T.cond _ rfl (fun ht15 => ?_) (fun ht15 => ?_)
  · refine T.skip ?_
    refine TQ.then_n ?_
    refine T.seq ?_
    refine T.block ?_
    refine T.seq ?_
    refine T.region ?_
    obtain ⟨rfl, rfl⟩ : k = 0 ∧ A = fun _ => false := by
      rcases hkA with h | h
      · exact h
      · exfalso; have h' : (k : Int) < (1 : Nat) := ht15; omega
    refine TL.indexAddr hF rfl rfl (ha.adi (i := 0) (by simp)) (by omega) (by omega) rfl ?_
    refine TL.load hF rfl ((ha.cell 0 _ rfl).up (fun x hx => by simp [hx])) rfl ?_
    refine TL.assign hF rfl rfl ?_
    refine TL.nil ?_
    refine TQ.then_n ?_
    refine T.region ?_
    refine TL.load hF rfl (own_mem (cs := #[.func (.func 69) #[] #[ptr b2, ptr b5, ptr b4, ptr b6]]) (e := 88) (fz := (0, 0)) (by simp) rfl) rfl ?_
    refine TL.move hF rfl rfl ?_
    refine TL.call hF (look_fn (bw := bw) (m := m) (U := U) (b2 := b2) (b5 := b5) (b6 := b6) (b4 := b4) hn (unm n fun _ => false) (fun _ => false) r _ (Nat.le_refl _) hr ⟨by simp, by simp, by simp, hw.up (fun x hx => by simp [hx])⟩) rfl rfl ?_
    rintro _ _ ⟨A2, rfl, hlk⟩
    refine TL.nil ?_
    refine TQ.block_n ?_
    refine TQ.then_n ?_
    refine T.region ?_
    refine TL.add hF rfl rfl (by omega) (by omega) rfl ?_
    refine TL.move hF rfl rfl ?_
    refine TL.nil ?_
    exact TQ.round (1, A2) (.inr ⟨rfl, hlk⟩) (by simp) ⟨rfl, rfl, rfl, rfl, rfl, trivial⟩ rfl
  · refine T.exit ?_
    refine TQ.then_x ?_
    refine TQ.then_x ?_
    refine TQ.block_x ?_
    refine TQ.then_n ?_
    refine T.seq ?_
    refine T.region ?_
    refine TL.loadA hF (rowC 48 A) rfl (rowC_len 48 A) (own_list (i := 0) rfl) rfl ?_
    refine TL.storeAs hF (rowC 48 A) (rowC 48 A) 0 (cs := rowC 48 A) rfl rfl rfl (rowC_len 48 A) (rowC1 48 A) (by rw [rowC_len]; omega) rowC_same ?_
    refine TL.nil ?_
    refine TQ.then_n ?_
    refine T.ret ?_
    have hlk : LookOk (EN U) n r (fun _ => false) A := by
      rcases hkA with h | h
      · exfalso; have h' : ¬ (k : Int) < (1 : Nat) := ht15; omega
      · exact h.2
    exact TQ.retC (rowC 48 A) η rfl rfl (rowC_len 48 A) (own_list (i := 0) rfl) (List.Sublist.cons _ (List.Sublist.cons _ (List.Sublist.cons _ (List.sublist_cons_self _ _)))) ⟨A, rfl, rfl, hlk⟩
/-- All ways, in a table of 48 rows. -/
def gC (E : Nat → Nat → Bool) (n k i : Nat) : Bool := decide (i / 48 < k) && (decide (i % 48 < n) && fwM E n (i / 48) (i % 48))
theorem look_gC {E : Nat → Nat → Bool} {n r : Nat} {A : Nat → Bool} (hr : r < n) (h : LookOk E n r (fun _ => false) A) : ∀ j, j < 48 → gC E n (r + 1) (r * 48 + j) = A j := by
  intro j hj
  have e1 : (r * 48 + j) / 48 = r := by omega
  have e2 : (r * 48 + j) % 48 = j := by omega
  unfold gC
  rw [e1, e2]
  by_cases h2 : j < n
  · rw [h.is hr j h2]; simp [h2]
  · rw [h.big j (by omega)]; simp [h2]
theorem gC_step {E : Nat → Nat → Bool} {n r i : Nat} (h : i < r * 48 ∨ r * 48 + 48 ≤ i) : gC E n (r + 1) i = gC E n r i := by
  unfold gC
  have : decide (i / 48 < r + 1) = decide (i / 48 < r) := by
    rw [Bool.eq_iff_iff]; simp only [decide_eq_true_eq]; omega
  rw [this]
abbrev gseg (b : Nat) (G : Nat → Bool) : Seg := [(b, .cells (rowC 2304 G).toArray 90 (0, 0))]

set_option maxHeartbeats 2000000 in
theorem leads_fn {bw n : Nat} {U : Int → Int → Bool → Bool} {m : List ((Int × Int) × Bool)} (hn : n ≤ 48) (hw : Web η bw n U m) :
    Rt Try.prog 47 [ptr bw].toArray S w0 η (fun v η' => v = .agg (rowC 2304 (gC (EN U) n n)).toArray ∧ η' = η) := by
  have hF := open_wide
  refine Rt.of (fn := Try.f47) Try.func47 rfl rfl ?_
  refine T.seq ?_
  refine T.region ?_
  refine TL.alloc hF rfl (fun b2 => ?_)
  refine TL.nil ?_
  refine TQ.then_n ?_
  refine T.seq ?_
  refine T.region ?_
  refine TL.move hF rfl rfl ?_
  refine TL.makeFunc hF rfl rfl rfl ?_
  refine TL.assign hF rfl rfl ?_
  refine TL.nil ?_
  refine TQ.then_n ?_
  refine T.seq ?_
  refine T.seq ?_
  refine T.region ?_
  obtain ⟨bm, es, clock, hws, hwm, hwo⟩ := hw.ex
  refine TL.move hF rfl rfl ?_
  refine TL.nilCheck hF rfl rfl ?_
  refine TL.fieldAddr hF rfl rfl ?_
  refine TL.load hF rfl (own_mem (List.mem_cons_of_mem _ hws) rfl) rfl ?_
  refine TL.move hF rfl rfl ?_
  refine TL.nil ?_
  refine TQ.then_n ?_
  refine T.block ?_
  refine T.loop (ι := Nat) (fun k => k ≤ n) (fun k => [(2, ptr b2), (3, .func (.func 64) #[ptr bw] #[]), (10, .int .i64 (n : Int)), (11, .int .i64 (k : Int))]) (fun k => gseg b2 (gC (EN U) n k) :: η) (fun k => n - k) 0 (Nat.zero_le _) ⟨rfl, rfl, rfl, rfl, trivial⟩ (by
    have e : (Value.agg (Array.replicate 2304 (.bool false))).cells = (rowC 2304 (gC (EN U) n 0)).toArray := by
      have h1 : rowC 2304 (gC (EN U) n 0) = rowC 2304 fun _ => false := rowC_congr (fun j _ => by simp [gC])
      rw [h1, ← rowC_false]; exact cells_rep 2304 _
    rw [e]) ?_
  rintro k hk
  refine T.seq ?_
  refine T.region ?_
  refine TL.bin hF rfl rfl rfl rfl ?_
  refine TL.nil ?_
  refine TQ.then_n ?_
  refine T.seq ?_
  first | refine T.cond_d rfl (fun ht12 => ?_) (fun ht12 => ?_) | refine T.cond _ rfl (fun ht12 => ?_) (fun ht12 => ?_)
  · refine T.skip ?_
    refine TQ.then_n ?_
    refine T.seq ?_
    refine T.block ?_
    refine T.seq ?_
    refine T.region ?_
    refine TL.move hF rfl rfl ?_
    refine TL.assign hF rfl rfl ?_
    refine TL.nil ?_
    refine TQ.then_n ?_
    refine T.region ?_
    refine TL.move hF rfl rfl ?_
    refine TL.move hF rfl rfl ?_
    refine TL.move hF rfl rfl ?_
    refine TL.buildSlice hF rfl (cs := #[.int .i64 (k : Int)]) (e := 3) (fun w => by kernel_rfl) rfl (fun b17 => ?_)
    refine TL.call hF (reached_fn (n := n) (r := k) hn (by omega) (hw.up (fun x hx => by simp [hx])) (row_own (cs := [.int .i64 (k : Int)]) (e := 3) (by simp))) rfl rfl ?_
    rintro _ _ ⟨A, rfl, rfl, hA⟩
    refine TL.indexAddrA hF rfl rfl (by omega) (by omega) rfl ?_
    refine TL.storeAs hF (rowC 48 A) (rowC 2304 (gC (EN U) n (k + 1))) 1 (cs := rowC 2304 (gC (EN U) n k)) rfl rfl rfl (rowC_len 48 A) (rowC1 48 A) (by rw [rowC_len]; omega) (by rw [show 0 + (k : Int).toNat * 48 = k * 48 by omega]; exact rowC_part (by omega) (fun i _ h => gC_step h) (look_gC (by omega) hA)) ?_
    refine TL.nil ?_
    refine TQ.block_n ?_
    refine TQ.then_n ?_
    refine T.region ?_
    refine TL.add hF rfl rfl (by omega) (by omega) rfl ?_
    refine TL.move hF rfl rfl ?_
    refine TL.nil ?_
    refine TQ.pop ?_
    exact TQ.round (k + 1) (by omega) (by omega) ⟨rfl, rfl, rfl, rfl, trivial⟩ rfl
  · refine T.exit ?_
    refine TQ.then_x ?_
    refine TQ.then_x ?_
    refine TQ.block_x ?_
    refine TQ.then_n ?_
    refine T.seq ?_
    refine T.region ?_
    refine TL.loadA hF (rowC 2304 (gC (EN U) n k)) rfl (rowC_len _ _) (own_list (i := 0) rfl) rfl ?_
    refine TL.storeAs hF (rowC 2304 (gC (EN U) n k)) (rowC 2304 (gC (EN U) n k)) 0 (cs := rowC 2304 (gC (EN U) n k)) rfl rfl rfl (rowC_len _ _) (rowC1 _ _) (by rw [rowC_len]; omega) rowC_same ?_
    refine TL.nil ?_
    refine TQ.then_n ?_
    refine T.ret ?_
    have hkn : k = n := by omega
    subst hkn
    exact TQ.retC (rowC 2304 (gC (EN U) k k)) η rfl rfl (rowC_len _ _) (own_list (i := 0) rfl) (List.sublist_cons_self _ _) ⟨rfl, rfl⟩
end Go.Proofs.Ytdehpaikapbckaa
