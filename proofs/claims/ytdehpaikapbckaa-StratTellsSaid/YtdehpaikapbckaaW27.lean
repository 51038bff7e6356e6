/- The first law. -/
import Derived.Test.YtdehpaikapbckaaW26
namespace Go.Proofs.Ytdehpaikapbckaa
open Go.Sl
variable {S : Nat → Prop} {w0 : World} {η : Heap}
theorem blocksS_len (rels : Int) (rs : List RuleD) : (blocksS rels rs).1.length ≤ 48 ∧ ∀ l ∈ (blocksS rels rs).1, l.length ≤ 48 := by
  unfold blocksS
  split
  · simp
  · rename_i h
    have hk := check_ok (Classical.not_not.1 h)
    split
    · refine ⟨?_, fun l hl => ?_⟩
      · have := orderS_len (n := rels.toNat) (M := fwM (EU rs) rels.toNat) rels.toNat []
        simp only; omega
      · obtain ⟨a, rfl⟩ := orderS_mem _ _ l hl
        have : (blockS rels.toNat (fwM (EU rs) rels.toNat) a).length ≤ (List.range rels.toNat).length := List.length_filter_le _ _
        simp only [List.length_range] at this; omega
    · simp
theorem blocksS_ok {rels : Int} {rs : List RuleD} (h : (blocksS rels rs).2 = 0) : check rels rs = 0 := by
  unfold blocksS at h
  split at h
  · rename_i h2; simp only at h; exact absurd h h2
  · rename_i h2; exact Classical.not_not.1 h2
theorem levelsS_len (rels : Int) (rs : List RuleD) : (levelsS rels rs).1.length ≤ 48 := by
  unfold levelsS
  split
  · simp
  · rename_i h
    have hk := check_ok (blocksS_ok (Classical.not_not.1 h))
    simp; omega
theorem bestS_len {E D : Nat → Nat → Bool} {n : Nat} : ∀ k, k ≤ n → (bestS E D n k).length ≤ n
  | 0, _ => by simp [bestS]
  | k + 1, h => by
    rw [bestS_succ]
    have key : ∀ j, j ≤ n → (rowS E D n k (bestS E D n k) j).length ≤ n := by
      intro j
      induction j with
      | zero => intro _; exact bestS_len k (by omega)
      | succ j ih => intro hj; rw [rowS_succ]; exact tryS_len (by omega) (by omega) (ih (by omega))
    exact key n (Nat.le_refl n)
theorem reasonS_len (rels : Int) (rs : List RuleD) : (reasonS rels rs).1.length ≤ 48 := by
  unfold reasonS
  split
  · simp
  · rename_i h
    have hk := check_ok (Classical.not_not.1 h)
    split
    · simp
    · have := bestS_len (E := EU rs) (D := ED rs) (n := rels.toNat) rels.toNat (Nat.le_refl _)
      simp only; omega
theorem reachS_len (rels : Int) (rs : List RuleD) (fr : List Int) : (reachS rels rs fr).1.length ≤ 48 := by
  unfold reachS
  split
  · simp
  · rename_i h
    have hk := check_ok (Classical.not_not.1 h)
    split
    · simp
    · have := List.length_filter_le (hits (fwM (EU rs) rels.toNat) (fr.map Int.toNat)) (List.range rels.toNat)
      simp only [List.length_range] at this; simp only; omega
theorem EqualN_fn {a b : Option Addr} {xs : List Nat} {ca cb : Nat} (hx : Row S w0 η a (nats xs)) (hy : Row S w0 η b (nats xs)) (hl : xs.length ≤ 48) :
    Rt Try.prog 19 [.slice a xs.length ca, .slice b xs.length cb].toArray S w0 η (fun v η' => v = .bool true ∧ η' = η) := by
  have h := Equal_fn (a := a) (b := b) (xs := casts xs) (ys := casts xs) (ca := ca) (cb := cb) (by unfold casts; rw [← nats_ints]; exact hx) (by unfold casts; rw [← nats_ints]; exact hy) (by simp [casts]; omega)
  simpa [casts] using h
theorem EqualI_fn {a b : Option Addr} {xs : List Int} {ca cb : Nat} (hx : Row S w0 η a (ints xs)) (hy : Row S w0 η b (ints xs)) (hl : xs.length ≤ 48) :
    Rt Try.prog 19 [.slice a xs.length ca, .slice b xs.length cb].toArray S w0 η (fun v η' => v = .bool true ∧ η' = η) := by
  have h := Equal_fn (a := a) (b := b) (xs := xs) (ys := xs) (ca := ca) (cb := cb) hx hy (by omega)
  simpa using h
theorem EqualO_fn {a b : Option Addr} {xs : List (List Nat)} {ca cb : Nat} (hx : OutL S w0 η a xs) (hy : OutL S w0 η b xs) (hl : xs.length ≤ 48) (hll : ∀ l ∈ xs, l.length ≤ 48) :
    Rt Try.prog 18 [.slice a xs.length ca, .slice b xs.length cb].toArray S w0 η (fun v η' => v = .bool true ∧ η' = η) := by
  have h := EqualLists_fn (ca := ca) (cb := cb) hx hy (by simp; omega) (by
    intro l hl'; obtain ⟨l2, h2, rfl⟩ := List.mem_map.1 hl'; have := hll l2 h2; simp; omega)
  simpa using h

set_option maxHeartbeats 2000000 in
theorem StratTells_fn {p fa : Option Addr} {rs : List RuleD} {fr : List Int} {c fc : Nat} (rels : Int) (hr : Rules S w0 [] p rs) (hl : rs.length < 2 ^ 63) (hbl : ∀ r ∈ rs, r.body.length < 2 ^ 63) (hfr : Row S w0 [] fa (ints fr)) :
    Rt Try.prog 3 [.int .i64 rels, .slice p rs.length c, .slice fa fr.length fc].toArray S w0 [] (fun v _ => v = .bool true) := by
  have hF := open_wide
  refine Rt.of (fn := Try.f3) Try.func3 rfl rfl ?_
  refine T.seq ?_
  refine T.region ?_
  refine TL.assign hF rfl rfl ?_
  refine TL.nil ?_
  refine TQ.then_n ?_
  refine T.seq ?_
  refine T.seq ?_
  refine T.region ?_
  refine TL.move hF rfl rfl ?_
  refine TL.call hF (farL_fn hr hl hbl) rfl rfl ?_
  rintro _ _ ⟨fb, rfl, rfl⟩
  have hb := Back.refl S w0
  refine TL.move hF rfl rfl ?_
  refine TL.gb (t := 25) rfl (fun g1_25 => ?_) (fun g1_25 => ?_)
  · refine TL.off hF rfl rfl rfl g1_25 rfl ?_
    refine TL.off hF rfl rfl rfl g1_25 rfl ?_
    refine TL.off hF rfl rfl rfl g1_25 rfl ?_
    refine TL.pickT hF rfl g1_25 rfl rfl ?_
    refine TL.nil ?_
    refine TQ.then_n ?_
    refine T.cond_t rfl rfl ?_
    refine T.seq ?_
    refine T.region ?_
    refine TL.call hF awake_fn rfl rfl ?_
    rintro _ _ rfl
    refine TL.assign hF rfl rfl ?_
    refine TL.nil ?_
    refine TQ.then_n ?_
    refine T.ret ?_
    refine TQ.then_r ?_
    exact TQ.retsF [6] _ hb rfl rfl rfl (fun _ => rfl)
  · refine TL.on rfl rfl rfl g1_25 ?_
    refine TL.move hF rfl rfl ?_
    refine TL.on rfl rfl rfl g1_25 ?_
    refine TL.len hF rfl rfl ?_
    refine TL.on rfl rfl rfl g1_25 ?_
    refine TL.bin hF rfl rfl rfl rfl ?_
    refine TL.pickF hF rfl g1_25 rfl rfl ?_
    refine TL.nil ?_
    refine TQ.then_n ?_
    first | refine T.cond_d rfl (fun ht29 => ?_) (fun ht29 => ?_) | refine T.cond _ rfl (fun ht29 => ?_) (fun ht29 => ?_)
    · refine T.seq ?_
      refine T.region ?_
      refine TL.call hF awake_fn rfl rfl ?_
      rintro _ _ rfl
      refine TL.assign hF rfl rfl ?_
      refine TL.nil ?_
      refine TQ.then_n ?_
      refine T.ret ?_
      refine TQ.then_r ?_
      exact TQ.retsF [6] _ hb rfl rfl rfl (fun _ => rfl)
    · refine T.skip ?_
      refine TQ.then_n ?_
      refine T.seq ?_
      refine T.region ?_
      refine TL.move hF rfl rfl ?_
      refine TL.move hF rfl rfl ?_
      refine TL.call hF (Blocks_prog rels hr hl hbl) rfl rfl ?_
      rintro _ _ ⟨a1, c1, s1, rfl, rfl, j1⟩
      refine TL.freeze s1 rfl (fun S1 w1 hz1 => ?_)
      have hb := hb.frz hz1
      have hr := hr.old hz1
      have hfr := hfr.old hz1
      have h1 := j1.frz hz1
      refine TL.move hF rfl rfl ?_
      refine TL.extract hF rfl rfl rfl ?_
      refine TL.extract hF rfl rfl rfl ?_
      refine TL.assign hF rfl rfl ?_
      refine TL.assign hF rfl rfl ?_
      refine TL.nil ?_
      refine TQ.then_n ?_
      refine T.seq ?_
      refine T.region ?_
      refine TL.move hF rfl rfl ?_
      refine TL.move hF rfl rfl ?_
      refine TL.call hF (Blocks_fn rels hr hl) rfl rfl ?_
      rintro _ _ ⟨a2, c2, s2, rfl, rfl, j2⟩
      refine TL.freeze s2 rfl (fun S2 w2 hz2 => ?_)
      have hb := hb.frz hz2
      have hr := hr.old hz2
      have hfr := hfr.old hz2
      have h2 := j2.frz hz2
      have h1 := h1.old hz2
      refine TL.move hF rfl rfl ?_
      refine TL.extract hF rfl rfl rfl ?_
      refine TL.extract hF rfl rfl rfl ?_
      refine TL.assign hF rfl rfl ?_
      refine TL.assign hF rfl rfl ?_
      refine TL.nil ?_
      refine TQ.then_n ?_
      refine T.seq ?_
      refine T.region ?_
      refine TL.move hF rfl rfl ?_
      refine TL.move hF rfl rfl ?_
      refine TL.call hF (Reason_prog rels hr hl hbl) rfl rfl ?_
      rintro _ _ ⟨a3, c3, s3, rfl, rfl, j3⟩
      refine TL.freeze s3 rfl (fun S3 w3 hz3 => ?_)
      have hb := hb.frz hz3
      have hr := hr.old hz3
      have hfr := hfr.old hz3
      have h3 := j3.frz hz3
      have h1 := h1.old hz3
      have h2 := h2.old hz3
      refine TL.move hF rfl rfl ?_
      refine TL.extract hF rfl rfl rfl ?_
      refine TL.extract hF rfl rfl rfl ?_
      refine TL.assign hF rfl rfl ?_
      refine TL.assign hF rfl rfl ?_
      refine TL.nil ?_
      refine TQ.then_n ?_
      refine T.seq ?_
      refine T.region ?_
      refine TL.move hF rfl rfl ?_
      refine TL.move hF rfl rfl ?_
      refine TL.call hF (Reason_fn rels hr hl) rfl rfl ?_
      rintro _ _ ⟨a4, c4, s4, rfl, rfl, j4⟩
      refine TL.freeze s4 rfl (fun S4 w4 hz4 => ?_)
      have hb := hb.frz hz4
      have hr := hr.old hz4
      have hfr := hfr.old hz4
      have h4 := j4.frz hz4
      have h1 := h1.old hz4
      have h2 := h2.old hz4
      have h3 := h3.old hz4
      refine TL.move hF rfl rfl ?_
      refine TL.extract hF rfl rfl rfl ?_
      refine TL.extract hF rfl rfl rfl ?_
      refine TL.assign hF rfl rfl ?_
      refine TL.assign hF rfl rfl ?_
      refine TL.nil ?_
      refine TQ.then_n ?_
      refine T.seq ?_
      refine T.region ?_
      refine TL.move hF rfl rfl ?_
      refine TL.move hF rfl rfl ?_
      refine TL.call hF (Levels_prog rels hr hl hbl) rfl rfl ?_
      rintro _ _ ⟨a5, c5, s5, rfl, rfl, j5⟩
      refine TL.freeze s5 rfl (fun S5 w5 hz5 => ?_)
      have hb := hb.frz hz5
      have hr := hr.old hz5
      have hfr := hfr.old hz5
      have h5 := j5.frz hz5
      have h1 := h1.old hz5
      have h2 := h2.old hz5
      have h3 := h3.old hz5
      have h4 := h4.old hz5
      refine TL.move hF rfl rfl ?_
      refine TL.extract hF rfl rfl rfl ?_
      refine TL.extract hF rfl rfl rfl ?_
      refine TL.assign hF rfl rfl ?_
      refine TL.assign hF rfl rfl ?_
      refine TL.nil ?_
      refine TQ.then_n ?_
      refine T.seq ?_
      refine T.region ?_
      refine TL.move hF rfl rfl ?_
      refine TL.move hF rfl rfl ?_
      refine TL.call hF (Levels_fn rels hr hl) rfl rfl ?_
      rintro _ _ ⟨a6, c6, s6, rfl, rfl, j6⟩
      refine TL.freeze s6 rfl (fun S6 w6 hz6 => ?_)
      have hb := hb.frz hz6
      have hr := hr.old hz6
      have hfr := hfr.old hz6
      have h6 := j6.frz hz6
      have h1 := h1.old hz6
      have h2 := h2.old hz6
      have h3 := h3.old hz6
      have h4 := h4.old hz6
      have h5 := h5.old hz6
      refine TL.move hF rfl rfl ?_
      refine TL.extract hF rfl rfl rfl ?_
      refine TL.extract hF rfl rfl rfl ?_
      refine TL.assign hF rfl rfl ?_
      refine TL.assign hF rfl rfl ?_
      refine TL.nil ?_
      refine TQ.then_n ?_
      refine T.seq ?_
      refine T.region ?_
      refine TL.move hF rfl rfl ?_
      refine TL.move hF rfl rfl ?_
      refine TL.move hF rfl rfl ?_
      refine TL.call hF (Reach_prog rels hr hl hbl hfr (by have h : ¬ (100 : Int) < (fr.length : Int) := ht29; omega)) rfl rfl ?_
      rintro _ _ ⟨a7, c7, s7, rfl, rfl, j7⟩
      refine TL.freeze s7 rfl (fun S7 w7 hz7 => ?_)
      have hb := hb.frz hz7
      have hr := hr.old hz7
      have hfr := hfr.old hz7
      have h7 := j7.frz hz7
      have h1 := h1.old hz7
      have h2 := h2.old hz7
      have h3 := h3.old hz7
      have h4 := h4.old hz7
      have h5 := h5.old hz7
      have h6 := h6.old hz7
      refine TL.move hF rfl rfl ?_
      refine TL.extract hF rfl rfl rfl ?_
      refine TL.extract hF rfl rfl rfl ?_
      refine TL.assign hF rfl rfl ?_
      refine TL.assign hF rfl rfl ?_
      refine TL.nil ?_
      refine TQ.then_n ?_
      refine T.seq ?_
      refine T.region ?_
      refine TL.move hF rfl rfl ?_
      refine TL.move hF rfl rfl ?_
      refine TL.move hF rfl rfl ?_
      refine TL.call hF (Reach_fn rels hr hl hfr (by have h : ¬ (100 : Int) < (fr.length : Int) := ht29; omega)) rfl rfl ?_
      rintro _ _ ⟨a8, c8, s8, rfl, rfl, j8⟩
      refine TL.freeze s8 rfl (fun S8 w8 hz8 => ?_)
      have hb := hb.frz hz8
      have hr := hr.old hz8
      have hfr := hfr.old hz8
      have h8 := j8.frz hz8
      have h1 := h1.old hz8
      have h2 := h2.old hz8
      have h3 := h3.old hz8
      have h4 := h4.old hz8
      have h5 := h5.old hz8
      have h6 := h6.old hz8
      have h7 := h7.old hz8
      refine TL.move hF rfl rfl ?_
      refine TL.extract hF rfl rfl rfl ?_
      refine TL.extract hF rfl rfl rfl ?_
      refine TL.assign hF rfl rfl ?_
      refine TL.assign hF rfl rfl ?_
      refine TL.nil ?_
      refine TQ.then_n ?_
      refine T.seq ?_
      refine T.region ?_
      refine TL.move hF rfl rfl ?_
      refine TL.move hF rfl rfl ?_
      refine TL.callV hF (EqualO_fn h1 h2 (blocksS_len rels rs).1 (blocksS_len rels rs).2) rfl rfl ?_
      refine TL.move hF rfl rfl ?_
      refine TL.on rfl rfl rfl rfl ?_
      refine TL.move hF rfl rfl ?_
      refine TL.on rfl rfl rfl rfl ?_
      refine TL.move hF rfl rfl ?_
      refine TL.on rfl rfl rfl rfl ?_
      refine TL.bin hF rfl rfl rfl rfl ?_
      refine TL.pickT hF rfl rfl rfl rfl ?_
      refine TL.move hF rfl rfl ?_
      refine TL.on rfl rfl rfl (decide_eq_true rfl) ?_
      refine TL.move hF rfl rfl ?_
      refine TL.on rfl rfl rfl (decide_eq_true rfl) ?_
      refine TL.move hF rfl rfl ?_
      refine TL.on rfl rfl rfl (decide_eq_true rfl) ?_
      refine TL.callV hF (EqualN_fn h3 h4 (reasonS_len rels rs)) rfl rfl ?_
      refine TL.pickT hF rfl (decide_eq_true rfl) rfl rfl ?_
      refine TL.move hF rfl rfl ?_
      refine TL.on rfl rfl rfl rfl ?_
      refine TL.move hF rfl rfl ?_
      refine TL.on rfl rfl rfl rfl ?_
      refine TL.move hF rfl rfl ?_
      refine TL.on rfl rfl rfl rfl ?_
      refine TL.bin hF rfl rfl rfl rfl ?_
      refine TL.pickT hF rfl rfl rfl rfl ?_
      refine TL.move hF rfl rfl ?_
      refine TL.on rfl rfl rfl (decide_eq_true rfl) ?_
      refine TL.move hF rfl rfl ?_
      refine TL.on rfl rfl rfl (decide_eq_true rfl) ?_
      refine TL.move hF rfl rfl ?_
      refine TL.on rfl rfl rfl (decide_eq_true rfl) ?_
      refine TL.callV hF (EqualI_fn h5 h6 (levelsS_len rels rs)) rfl rfl ?_
      refine TL.pickT hF rfl (decide_eq_true rfl) rfl rfl ?_
      refine TL.move hF rfl rfl ?_
      refine TL.on rfl rfl rfl rfl ?_
      refine TL.move hF rfl rfl ?_
      refine TL.on rfl rfl rfl rfl ?_
      refine TL.move hF rfl rfl ?_
      refine TL.on rfl rfl rfl rfl ?_
      refine TL.bin hF rfl rfl rfl rfl ?_
      refine TL.pickT hF rfl rfl rfl rfl ?_
      refine TL.move hF rfl rfl ?_
      refine TL.on rfl rfl rfl (decide_eq_true rfl) ?_
      refine TL.move hF rfl rfl ?_
      refine TL.on rfl rfl rfl (decide_eq_true rfl) ?_
      refine TL.move hF rfl rfl ?_
      refine TL.on rfl rfl rfl (decide_eq_true rfl) ?_
      refine TL.callV hF (EqualN_fn h7 h8 (reachS_len rels rs fr)) rfl rfl ?_
      refine TL.pickT hF rfl (decide_eq_true rfl) rfl rfl ?_
      refine TL.move hF rfl rfl ?_
      refine TL.on rfl rfl rfl rfl ?_
      refine TL.move hF rfl rfl ?_
      refine TL.on rfl rfl rfl rfl ?_
      refine TL.move hF rfl rfl ?_
      refine TL.on rfl rfl rfl rfl ?_
      refine TL.bin hF rfl rfl rfl rfl ?_
      refine TL.pickT hF rfl rfl rfl rfl ?_
      refine TL.move hF rfl rfl ?_
      refine TL.on rfl rfl rfl (decide_eq_true rfl) ?_
      refine TL.call hF awake_fn rfl rfl ?_
      rintro _ _ rfl
      refine TL.pickT hF rfl (decide_eq_true rfl) rfl rfl ?_
      refine TL.assign hF rfl rfl ?_
      refine TL.nil ?_
      refine TQ.then_n ?_
      refine T.ret ?_
      exact TQ.retsF [6] _ hb rfl rfl rfl (fun _ => rfl)
end Go.Proofs.Ytdehpaikapbckaa
