/- The program's reason. -/
import Derived.Test.YtdehpaikapbckaaW23
namespace Go.Proofs.Ytdehpaikapbckaa
open Go.Sl
variable {S : Nat → Prop} {w0 : World} {η : Heap}
def cmpL : List Int → List Int → Int
  | [], [] => 0
  | [], _ :: _ => -1
  | _ :: _, [] => 1
  | x :: xs, y :: ys => if x < y then -1 else if y < x then 1 else cmpL xs ys
theorem cmpL_less : ∀ {xs ys : List Int}, xs.length = ys.length → decide (cmpL xs ys < 0) = lessA xs ys
  | [], [], _ => rfl
  | [], _ :: _, h => by simp at h
  | _ :: _, [], h => by simp at h
  | x :: xs, y :: ys, h => by
    have h2 := cmpL_less (xs := xs) (ys := ys) (by simpa using h)
    unfold cmpL lessA
    by_cases h1 : x < y
    · have : x ≠ y := by omega
      simp [h1, this]
    · by_cases h3 : y < x
      · have : x ≠ y := by omega
        simp [h1, h3, this]
      · have : x = y := by omega
        subst this
        simpa using h2

set_option maxHeartbeats 2000000 in
theorem isNaN_fn (x : Int) :
    Rt Try.prog 68 [.int .i64 x].toArray S w0 η (fun v η' => v = .bool false ∧ η' = η) := by
  have hF := open_wide
  refine Rt.of (fn := Try.f68) Try.func68 rfl rfl ?_
  refine T.seq ?_
  refine T.region ?_
  refine TL.assign hF rfl rfl ?_
  refine TL.nil ?_
  refine TQ.then_n ?_
  refine T.seq ?_
  refine T.region ?_
  refine TL.move hF rfl rfl ?_
  refine TL.move hF rfl rfl ?_
  refine TL.bin hF rfl rfl rfl rfl ?_
  refine TL.assign hF rfl rfl ?_
  refine TL.nil ?_
  refine TQ.then_n ?_
  refine T.ret ?_
  refine TQ.rets [2] _ rfl rfl rfl ?_
  exact ⟨by simp [retVal], rfl⟩
set_option maxHeartbeats 2000000 in
theorem cmp_fn (x y : Int) :
    Rt Try.prog 62 [.int .i64 x, .int .i64 y].toArray S w0 η (fun v η' => v = .int .i64 (if x < y then -1 else if y < x then 1 else 0) ∧ η' = η) := by
  have hF := open_wide
  refine Rt.of (fn := Try.f62) Try.func62 rfl rfl ?_
  refine T.seq ?_
  refine T.region ?_
  refine TL.assign hF rfl rfl ?_
  refine TL.nil ?_
  refine TQ.then_n ?_
  refine T.seq ?_
  refine T.region ?_
  refine TL.move hF rfl rfl ?_
  refine TL.callV hF (isNaN_fn x) rfl rfl ?_
  refine TL.assign hF rfl rfl ?_
  refine TL.nil ?_
  refine TQ.then_n ?_
  refine T.seq ?_
  refine T.region ?_
  refine TL.move hF rfl rfl ?_
  refine TL.callV hF (isNaN_fn y) rfl rfl ?_
  refine TL.assign hF rfl rfl ?_
  refine TL.nil ?_
  refine TQ.then_n ?_
  refine T.seq ?_
  refine T.seq ?_
  refine T.region ?_
  refine TL.move hF rfl rfl ?_
  refine TL.nil ?_
  refine TQ.then_n ?_
  refine T.cond_f rfl rfl ?_
  refine T.skip ?_
  refine TQ.then_n ?_
  refine T.seq ?_
  refine T.seq ?_
  refine T.region ?_
  refine TL.move hF rfl rfl ?_
  refine TL.nil ?_
  refine TQ.then_n ?_
  refine T.cond_f rfl rfl ?_
  refine T.skip ?_
  refine TQ.then_n ?_
  refine T.seq ?_
  refine T.seq ?_
  refine T.region ?_
  refine TL.move hF rfl rfl ?_
  refine TL.move hF rfl rfl ?_
  refine TL.bin hF rfl rfl rfl rfl ?_
  refine TL.nil ?_
  refine TQ.then_n ?_
  first | refine T.cond_d rfl (fun ht16 => ?_) (fun ht16 => ?_) | refine T.cond _ rfl (fun ht16 => ?_) (fun ht16 => ?_)
  · refine T.seq ?_
    refine T.region ?_
    refine TL.assign hF rfl rfl ?_
    refine TL.nil ?_
    refine TQ.then_n ?_
    refine T.ret ?_
    refine TQ.then_r ?_
    refine TQ.rets [4] _ rfl rfl rfl ?_
    have h : x < y := ht16
    exact ⟨by rw [if_pos h]; rfl, rfl⟩
  · refine T.skip ?_
    refine TQ.then_n ?_
    refine T.seq ?_
    refine T.seq ?_
    refine T.region ?_
    refine TL.move hF rfl rfl ?_
    refine TL.move hF rfl rfl ?_
    refine TL.bin hF rfl rfl rfl rfl ?_
    refine TL.nil ?_
    refine TQ.then_n ?_
    first | refine T.cond_d rfl (fun ht19 => ?_) (fun ht19 => ?_) | refine T.cond _ rfl (fun ht19 => ?_) (fun ht19 => ?_)
    · refine T.seq ?_
      refine T.region ?_
      refine TL.assign hF rfl rfl ?_
      refine TL.nil ?_
      refine TQ.then_n ?_
      refine T.ret ?_
      refine TQ.then_r ?_
      refine TQ.rets [4] _ rfl rfl rfl ?_
      have h : ¬ x < y := ht16
      have h2 : y < x := ht19
      exact ⟨by rw [if_neg h, if_pos h2]; rfl, rfl⟩
    · refine T.skip ?_
      refine TQ.then_n ?_
      refine T.seq ?_
      refine T.region ?_
      refine TL.assign hF rfl rfl ?_
      refine TL.nil ?_
      refine TQ.then_n ?_
      refine T.ret ?_
      refine TQ.rets [4] _ rfl rfl rfl ?_
      have h : ¬ x < y := ht16
      have h2 : ¬ y < x := ht19
      exact ⟨by rw [if_neg h, if_neg h2]; rfl, rfl⟩
set_option maxHeartbeats 2000000 in
theorem Compare_fn {a b : Option Addr} {xs ys : List Int} {ca cb : Nat} (hx : Row S w0 η a (ints xs)) (hy : Row S w0 η b (ints ys)) (hl : xs.length < 2 ^ 63) :
    Rt Try.prog 37 [.slice a xs.length ca, .slice b ys.length cb].toArray S w0 η (fun v η' => v = .int .i64 (cmpL xs ys) ∧ η' = η) := by
  have hF := open_wide
  refine Rt.of (fn := Try.f37) Try.func37 rfl rfl ?_
  refine T.seq ?_
  refine T.region ?_
  refine TL.assign hF rfl rfl ?_
  refine TL.nil ?_
  refine TQ.then_n ?_
  refine T.seq ?_
  refine T.seq ?_
  refine T.region ?_
  refine TL.move hF rfl rfl ?_
  refine TL.len hF rfl rfl ?_
  refine TL.move hF rfl rfl ?_
  refine TL.nil ?_
  refine TQ.then_n ?_
  refine T.block ?_
  refine T.loop (ι := Nat) (fun k => k ≤ xs.length ∧ k ≤ ys.length ∧ cmpL xs ys = cmpL (xs.drop k) (ys.drop k)) (fun k => [(1, .slice b ys.length cb), (0, .slice a xs.length ca), (9, .slice a xs.length ca), (10, .int .i64 (xs.length : Int)), (11, .int .i64 (k : Int))]) (fun _ => η) (fun k => xs.length - k) 0 ⟨Nat.zero_le _, Nat.zero_le _, by simp⟩ ⟨rfl, rfl, rfl, rfl, rfl, trivial⟩ rfl ?_
  rintro k ⟨hk, hk2, hno⟩
  refine T.seq ?_
  refine T.region ?_
  refine TL.bin hF rfl rfl rfl rfl ?_
  refine TL.nil ?_
  refine TQ.then_n ?_
  refine T.seq ?_
  first | refine T.cond_d rfl (fun ht12 => ?_) (fun ht12 => ?_) | refine T.cond _ rfl (fun ht12 => ?_) (fun ht12 => ?_)
  · refine T.skip ?_
    refine TQ.then_n ?_
    refine T.seq ?_
    refine T.block ?_
    refine T.seq ?_
    refine T.region ?_
    refine TL.move hF rfl rfl ?_
    refine TL.indexAddr hF rfl rfl (hx.adi (i := k) (by simp; omega)) (by omega) (by omega) rfl ?_
    refine TL.load hF rfl (hx.int (i := k) (by omega)) rfl ?_
    refine TL.assign hF rfl rfl ?_
    refine TL.assign hF rfl rfl ?_
    refine TL.nil ?_
    refine TQ.then_n ?_
    refine T.seq ?_
    refine T.seq ?_
    refine T.region ?_
    refine TL.move hF rfl rfl ?_
    refine TL.move hF rfl rfl ?_
    refine TL.len hF rfl rfl ?_
    refine TL.bin hF rfl rfl rfl rfl ?_
    refine TL.nil ?_
    refine TQ.then_n ?_
    first | refine T.cond_d rfl (fun ht19 => ?_) (fun ht19 => ?_) | refine T.cond _ rfl (fun ht19 => ?_) (fun ht19 => ?_)
    · refine T.seq ?_
      refine T.region ?_
      refine TL.assign hF rfl rfl ?_
      refine TL.nil ?_
      refine TQ.then_n ?_
      refine T.ret ?_
      refine TQ.then_r ?_
      refine TQ.block_r ?_
      refine TQ.then_r ?_
      refine TQ.then_r ?_
      refine TQ.block_r ?_
      refine TQ.then_r ?_
      refine TQ.rets [4] _ rfl rfl rfl ?_
      have hkx : k < xs.length := by omega
      have hky : k = ys.length := by omega
      refine ⟨?_, rfl⟩
      rw [hno, drop_step hkx, List.drop_of_length_le (l := ys) (by omega), cmpL]; rfl
    · refine T.skip ?_
      refine TQ.then_n ?_
      refine T.seq ?_
      refine T.region ?_
      refine TL.move hF rfl rfl ?_
      refine TL.move hF rfl rfl ?_
      refine TL.indexAddr hF rfl rfl (hy.adi (i := k) (by simp; omega)) (by omega) (by omega) rfl ?_
      refine TL.load hF rfl (hy.int (i := k) (by omega)) rfl ?_
      refine TL.assign hF rfl rfl ?_
      refine TL.nil ?_
      refine TQ.then_n ?_
      refine T.seq ?_
      refine T.region ?_
      refine TL.move hF rfl rfl ?_
      refine TL.move hF rfl rfl ?_
      refine TL.callV hF (cmp_fn (xs[k]'(by omega)) (ys[k]'(by omega))) rfl rfl ?_
      refine TL.assign hF rfl rfl ?_
      refine TL.nil ?_
      refine TQ.then_n ?_
      refine T.seq ?_
      refine T.region ?_
      refine TL.move hF rfl rfl ?_
      refine TL.bin hF rfl rfl rfl rfl ?_
      refine TL.nil ?_
      refine TQ.then_n ?_
      first | refine T.cond_d rfl (fun ht28 => ?_) (fun ht28 => ?_) | refine T.cond _ rfl (fun ht28 => ?_) (fun ht28 => ?_)
      · refine T.seq ?_
        refine T.region ?_
        refine TL.move hF rfl rfl ?_
        refine TL.assign hF rfl rfl ?_
        refine TL.nil ?_
        refine TQ.then_n ?_
        refine T.ret ?_
        refine TQ.block_r ?_
        refine TQ.then_r ?_
        refine TQ.then_r ?_
        refine TQ.block_r ?_
        refine TQ.then_r ?_
        refine TQ.rets [4] _ rfl rfl rfl ?_
        have hkx : k < xs.length := by omega
        have hky : k < ys.length := by omega
        have h : (if xs[k] < ys[k] then (-1 : Int) else if ys[k] < xs[k] then 1 else 0) ≠ 0 := ht28
        refine ⟨?_, rfl⟩
        rw [hno, drop_step hkx, drop_step hky, cmpL]
        by_cases h1 : xs[k] < ys[k]
        · simp [h1, retVal]
        · by_cases h2 : ys[k] < xs[k]
          · simp [h1, h2, retVal]
          · rw [if_neg h1, if_neg h2] at h; exact absurd rfl h
      · refine T.skip ?_
        refine TQ.block_n ?_
        refine TQ.then_n ?_
        refine T.region ?_
        refine TL.add hF rfl rfl (by omega) (by omega) rfl ?_
        refine TL.move hF rfl rfl ?_
        refine TL.nil ?_
        have hkx : k < xs.length := by omega
        have hky : k < ys.length := by omega
        have h : ¬ (if xs[k] < ys[k] then (-1 : Int) else if ys[k] < xs[k] then 1 else 0) ≠ 0 := ht28
        refine TQ.round (k + 1) ⟨by omega, by omega, ?_⟩ (by omega) ⟨rfl, rfl, rfl, rfl, rfl, trivial⟩ rfl
        rw [hno, drop_step hkx, drop_step hky, cmpL]
        by_cases h1 : xs[k] < ys[k]
        · rw [if_pos h1] at h; exact absurd (by decide) h
        · rw [if_neg h1] at h ⊢
          by_cases h2 : ys[k] < xs[k]
          · rw [if_pos h2] at h; exact absurd (by decide) h
          · rw [if_neg h2]
  · refine T.exit ?_
    refine TQ.then_x ?_
    refine TQ.then_x ?_
    refine TQ.block_x ?_
    refine TQ.then_n ?_
    refine T.seq ?_
    refine T.seq ?_
    refine T.region ?_
    refine TL.move hF rfl rfl ?_
    refine TL.len hF rfl rfl ?_
    refine TL.move hF rfl rfl ?_
    refine TL.len hF rfl rfl ?_
    refine TL.bin hF rfl rfl rfl rfl ?_
    refine TL.nil ?_
    refine TQ.then_n ?_
    first | refine T.cond_d rfl (fun ht35 => ?_) (fun ht35 => ?_) | refine T.cond _ rfl (fun ht35 => ?_) (fun ht35 => ?_)
    · refine T.seq ?_
      refine T.region ?_
      refine TL.assign hF rfl rfl ?_
      refine TL.nil ?_
      refine TQ.then_n ?_
      refine T.ret ?_
      refine TQ.then_r ?_
      refine TQ.rets [4] _ rfl rfl rfl ?_
      have hkx : k = xs.length := by omega
      have hky : k < ys.length := by omega
      refine ⟨?_, rfl⟩
      rw [hno, List.drop_of_length_le (l := xs) (by omega), drop_step hky, cmpL]; rfl
    · refine T.skip ?_
      refine TQ.then_n ?_
      refine T.seq ?_
      refine T.region ?_
      refine TL.assign hF rfl rfl ?_
      refine TL.nil ?_
      refine TQ.then_n ?_
      refine T.ret ?_
      refine TQ.rets [4] _ rfl rfl rfl ?_
      have hkx : k = xs.length := by omega
      have hky : k = ys.length := by omega
      refine ⟨?_, rfl⟩
      rw [hno, List.drop_of_length_le (l := xs) (by omega), List.drop_of_length_le (l := ys) (by omega), cmpL]; rfl
theorem CompareN_fn {a b : Option Addr} {xs ys : List Nat} {ca cb : Nat} (hx : Row S w0 η a (nats xs)) (hy : Row S w0 η b (nats ys)) (hl : xs.length < 2 ^ 63) :
    Rt Try.prog 37 [.slice a xs.length ca, .slice b ys.length cb].toArray S w0 η (fun v η' => v = .int .i64 (cmpL (casts xs) (casts ys)) ∧ η' = η) := by
  have h := Compare_fn (a := a) (b := b) (xs := casts xs) (ys := casts ys) (ca := ca) (cb := cb) (by unfold casts; rw [← nats_ints]; exact hx) (by unfold casts; rw [← nats_ints]; exact hy) (by simpa [casts] using hl)
  simp only [casts, List.length_map] at h
  exact h
def tryP (E : Nat → Nat → Bool) (n a : Nat) (best : List Nat) (b : Nat) : List Nat := if 0 ≤ distS E n a b then betterS best (candS E n a b) else best
def succD (U : Int → Int → Bool → Bool) (n r : Nat) : List Nat := (List.range n).filter fun s : Nat => U r s true
/-- What is known of the best one behind some denials. -/
def bestP (U : Int → Int → Bool → Bool) (n k i : Nat) : List Nat := ((succD U n k).take i).foldl (tryP (EN U) n k) (bestS (EN U) (DN U) n k)
theorem bestP_zero (U : Int → Int → Bool → Bool) (n k : Nat) : bestP U n k 0 = bestS (EN U) (DN U) n k := by simp [bestP]
theorem bestP_all (U : Int → Int → Bool → Bool) (n k : Nat) : bestP U n k (succD U n k).length = bestS (EN U) (DN U) n (k + 1) := by
  rw [bestS_succ]
  unfold bestP rowS succD
  rw [List.take_length, List.foldl_filter]
  have e : (fun (x : List Nat) (y : Nat) => if U k y true = true then tryP (EN U) n k x y else x) = tryS (EN U) (DN U) n k := by
    funext best b
    unfold tryS tryP DN
    by_cases h : U k b true = true
    · simp [h]
    · simp [h]
  rw [e]
theorem bestP_succ {U : Int → Int → Bool → Bool} {n k i : Nat} (h : i < (succD U n k).length) : bestP U n k (i + 1) = tryP (EN U) n k (bestP U n k i) (succD U n k)[i] := by
  unfold bestP
  rw [List.take_succ_eq_append_getElem h, List.foldl_append]
  rfl
theorem round_len {E : Nat → Nat → Bool} {n a b : Nat} (ha : a < n) (hb : b < n) : (roundS E n a b).length ≤ n := by
  unfold roundS
  split
  · have := levS_lt (E := E) (n := n) (t := a) hb
    simp only [candS, List.length_cons, wayS_len]; unfold distS; omega
  · simp
theorem round_pos {E : Nat → Nat → Bool} {n a b : Nat} (h : 0 < (roundS E n a b).length) : 0 ≤ distS E n a b ∧ roundS E n a b = candS E n a b := by
  unfold roundS at h ⊢
  split
  · rename_i h1; exact ⟨h1, rfl⟩
  · rename_i h1; rw [if_neg h1] at h; simp at h
theorem tryP_take {E : Nat → Nat → Bool} {n a b : Nat} {best : List Nat} (h : 0 < (roundS E n a b).length) (hc : best.length = 0 ∨ less (casts (roundS E n a b)) (casts best) = true) : tryP E n a best b = roundS E n a b := by
  obtain ⟨h1, h2⟩ := round_pos h
  unfold tryP betterS
  rw [if_pos h1, ← h2, if_pos hc]
theorem tryP_keep {E : Nat → Nat → Bool} {n a b : Nat} {best : List Nat} (hc : ¬ (best.length = 0 ∨ less (casts (roundS E n a b)) (casts best) = true)) : tryP E n a best b = best := by
  unfold tryP betterS
  by_cases h1 : 0 ≤ distS E n a b
  · rw [if_pos h1]
    have h2 : roundS E n a b = candS E n a b := by unfold roundS; rw [if_pos h1]
    rw [← h2, if_neg hc]
  · rw [if_neg h1]
theorem tryP_none {E : Nat → Nat → Bool} {n a b : Nat} {best : List Nat} (h : ¬ 0 < (roundS E n a b).length) : tryP E n a best b = best := by
  unfold tryP
  rw [if_neg]
  intro h1
  apply h
  unfold roundS
  rw [if_pos h1]
  simp [candS]
theorem less_shorter {xs ys : List Nat} (h : xs.length < ys.length) : less (casts xs) (casts ys) = true := by
  unfold less casts
  simp only [List.length_map]
  rw [if_pos (by omega)]; simp [h]
theorem less_longer {xs ys : List Nat} (h : ¬ xs.length < ys.length) (h2 : xs.length ≠ ys.length) : less (casts xs) (casts ys) = false := by
  unfold less casts
  simp only [List.length_map]
  rw [if_pos h2]; simp [h]
theorem less_same {xs ys : List Nat} (h : xs.length = ys.length) : less (casts xs) (casts ys) = decide (cmpL (casts xs) (casts ys) < 0) := by
  rw [cmpL_less (by simpa [casts] using h)]
  unfold less casts
  simp only [List.length_map]
  rw [if_neg (by omega)]

set_option maxHeartbeats 2000000 in
theorem Reason_prog {p : Option Addr} {rs : List RuleD} {c : Nat} (rels : Int) (hr : Rules S w0 [] p rs) (hl : rs.length < 2 ^ 63) (hbl : ∀ r ∈ rs, r.body.length < 2 ^ 63) :
    Rt Try.prog 12 [.int .i64 rels, .slice p rs.length c].toArray S w0 η (fun v η' => ∃ a cap segs, v = .tuple #[.slice a (reasonS rels rs).1.length cap, .int .i64 (reasonS rels rs).2] ∧ η' = segs ++ η ∧ Row S w0 segs a (nats (reasonS rels rs).1)) := by
  have hF := open_wide
  refine Rt.ofL (fn := Try.f12) Try.func12 rfl rfl ?_
  refine T.seq ?_
  refine T.region ?_
  refine TL.assign hF rfl rfl ?_
  refine TL.alloc hF rfl (fun b5 => ?_)
  refine TL.nil ?_
  refine TQ.then_n ?_
  refine T.seq ?_
  refine T.region ?_
  refine TL.makeFunc hF rfl rfl rfl ?_
  refine TL.defer hF rfl rfl ?_
  refine TL.nil ?_
  refine TQ.then_n ?_
  refine T.seq ?_
  refine T.region ?_
  refine TL.move hF rfl rfl ?_
  refine TL.move hF rfl rfl ?_
  refine TL.callE hF (opened_fn rels hr hl hbl) rfl rfl ?_ ?_
  · rintro _ _ ⟨hck, bw, bm, es, clock, m, rfl, rfl, hwo, hw⟩
    obtain ⟨hk1, hk2, hk3, hk4⟩ := check_ok hck
    obtain ⟨n, rfl⟩ : ∃ n : Nat, rels = (n : Int) := ⟨rels.toNat, by omega⟩
    have hU := uok hk4
    have hweb : ∀ η2 : Heap, wseg bw bm n ∈ η2 → [(bm, Obj.map es clock)] ∈ η2 → Web η2 bw n (UR rs) m := fun η2 h1 h2 => ⟨⟨bm, es, clock, h1, h2, hwo⟩, hw⟩
    refine TL.assign hF rfl rfl ?_
    refine TL.nil ?_
    refine TQ.then_n ?_
    refine T.seq ?_
    refine T.region ?_
    refine TL.alloc hF rfl (fun b7 => ?_)
    refine TL.nil ?_
    refine TQ.then_n ?_
    refine T.seq ?_
    refine T.region ?_
    refine TL.move hF rfl rfl ?_
    refine TL.makeFunc hF rfl rfl rfl ?_
    refine TL.alloc hF rfl (fun b8 => ?_)
    first | refine TL.storeI hF 0 rfl rfl rfl rfl (by first | decide | simp) ?_ | refine TL.storeI hF 1 rfl rfl rfl rfl (by first | decide | simp) ?_ | refine TL.storeI hF 2 rfl rfl rfl rfl (by first | decide | simp) ?_ | refine TL.storeI hF 3 rfl rfl rfl rfl (by first | decide | simp) ?_
    refine TL.nil ?_
    refine TQ.then_n ?_
    refine T.seq ?_
    refine T.seq ?_
    refine T.region ?_
    refine TL.move hF rfl rfl ?_
    refine TL.move hF rfl rfl ?_
    refine TL.nil ?_
    refine TQ.then_n ?_
    refine T.block ?_
    refine T.hnil ?_
    refine T.hperm ([] :: [(b7, .cells #[.slice none (bestS (EN (UR rs)) (DN (UR rs)) n 0).length 0] 23 (0, 0))] :: [(b8, .cells #[.func (.func 34) #[ptr bw] #[]] 66 (0, 0))] :: wseg bw bm n :: [(bm, .map es clock)] :: [(b5, .cells #[.int .i64 0] 27 (0, 0))] :: (marksH [] ++ η)) ((List.Perm.swap _ _ _).cons _) ?_
    refine T.loopD (ι := Nat × Option Addr × Nat × Seg × List Nat) (fun i => i.1 ≤ n ∧ OSl 3 1 (.slice i.2.1 (bestS (EN (UR rs)) (DN (UR rs)) n i.1).length i.2.2.1) (bestS (EN (UR rs)) (DN (UR rs)) n i.1).length (nats (bestS (EN (UR rs)) (DN (UR rs)) n i.1)) i.2.2.2.1) (fun i => [(4, .slice none 0 0), (5, ptr b5), (6, ptr bw), (7, ptr b7), (8, ptr b8), (18, .int .i64 (n : Int)), (19, .int .i64 (i.1 : Int))]) (fun i => i.2.2.2.1 :: [(b7, .cells #[.slice i.2.1 (bestS (EN (UR rs)) (DN (UR rs)) n i.1).length i.2.2.1] 23 (0, 0))] :: [(b8, .cells #[.func (.func 34) #[ptr bw] #[]] 66 (0, 0))] :: wseg bw bm n :: [(bm, .map es clock)] :: [(b5, .cells #[.int .i64 0] 27 (0, 0))] :: (marksH i.2.2.2.2 ++ η)) (fun i => marksOf i.2.2.2.2 ++ [{ target := .fn (.func 33) #[ptr b5], args := #[] }]) (fun i => n - i.1) (0, none, 0, [], []) ⟨Nat.zero_le _, OSl.nil 3 1⟩ ⟨rfl, rfl, rfl, rfl, rfl, rfl, rfl, trivial⟩ rfl rfl ?_
    rintro ⟨k, oa, oc, og, ms⟩ ⟨hk, ho⟩
    simp only at hk ho
    refine T.seq ?_
    refine T.region ?_
    refine TL.bin hF rfl rfl rfl rfl ?_
    refine TL.nil ?_
    refine TQ.then_n ?_
    refine T.seq ?_
    first | refine T.cond_d rfl (fun ht20 => ?_) (fun ht20 => ?_) | refine T.cond _ rfl (fun ht20 => ?_) (fun ht20 => ?_)
    · refine T.skip ?_
      refine TQ.then_n ?_
      refine T.seq ?_
      refine T.block ?_
      refine T.seq ?_
      refine T.region ?_
      refine TL.move hF rfl rfl ?_
      refine TL.alloc hF rfl (fun b9 => ?_)
      first | refine TL.storeI hF 0 rfl rfl rfl rfl (by first | decide | simp) ?_ | refine TL.storeI hF 1 rfl rfl rfl rfl (by first | decide | simp) ?_ | refine TL.storeI hF 2 rfl rfl rfl rfl (by first | decide | simp) ?_ | refine TL.storeI hF 3 rfl rfl rfl rfl (by first | decide | simp) ?_
      refine TL.nil ?_
      refine TQ.then_n ?_
      refine T.seq ?_
      have hkn : k < n := by have h : (k : Int) < n := ht20; omega
      refine T.draw ?_
      refine DR.stepV [_] rfl [(6, _, none)] rfl rfl ⟨⟨rfl, by kernel_rfl⟩, trivial⟩ (fun ext => TL.move hF rfl rfl TL.fin) ?_
      refine DR.stepV [_, _] rfl [(9, _, none)] rfl rfl ⟨⟨rfl, by kernel_rfl⟩, trivial⟩ (fun ext => TL.load hF rfl (At.own' (i := 0) rfl rfl) rfl TL.fin) ?_
      refine DR.stepV [_, _, _] rfl [] rfl rfl trivial (fun ext => TL.callV hF (all_fn) rfl rfl TL.fin) ?_
      refine DR.stepV [_, _, _, _] rfl [(24, _, some 2)] rfl rfl ⟨⟨rfl, rfl, rfl⟩, trivial⟩ (fun ext => TL.indexR hF rfl rfl (r := .agg #[fnV 61]) (fun w => by kernel_rfl) rfl TL.fin) ?_
      refine DR.done [(25, _), (24, _), (23, _), (22, _)] [_] mixed (by kernel_rfl) (by kernel_rfl) (by kernel_rfl) rfl rfl ?_
      refine TL.call hF (from_fn (ptr bw) rfl k 61) rfl rfl ?_
      rintro _ _ ⟨c3, c4, c5, rfl, rfl⟩
      refine TL.nil ?_
      refine TQ.then_n ?_
      refine T.block ?_
      refine T.rangeFunc (fst := []) (cap := [ptr c3, ptr c5, ptr c4]) rfl (from_iter (S := S) (w0 := w0) (b3 := c3) (b4 := c4) (b5 := c5) (bw := bw) (r := k) (g := 61) (n := n) (U := UR rs) (m := m) (by omega) (kind_denial (UR rs) hU.le)) (by
          intro e he; obtain ⟨x, _, rfl⟩ := List.mem_map.1 he; rfl) (by simp) (fun i η1 => ∃ oa oc og, η1 = [(c5, .cells #[fnV 61] 72 (0, 0))] :: [(c4, .cells #[.int .i64 (k : Int)] 3 (0, 0))] :: [(c3, .cells #[ptr bw] 59 (0, 0))] :: [(b9, .cells #[.int .i64 (k : Int)] 3 (0, 0))] :: og :: [(b7, .cells #[.slice oa (bestP (UR rs) n k i).length oc] 23 (0, 0))] :: [(b8, .cells #[.func (.func 34) #[ptr bw] #[]] 66 (0, 0))] :: wseg bw bm n :: [(bm, .map es clock)] :: [(b5, .cells #[.int .i64 0] 27 (0, 0))] :: (marksH ms ++ η) ∧ OSl 3 1 (.slice oa (bestP (UR rs) n k i).length oc) (bestP (UR rs) n k i).length (nats (bestP (UR rs) n k i)) og) (fun _ _ => False) ⟨oa, oc, og, by rw [bestP_zero]; rfl, by rw [bestP_zero]; exact ho⟩ ?_ ?_ ?_ ?_
      · rintro i _ tl ⟨oa, oc, og, rfl, _⟩
        exact ⟨by simp, by simp, by simp, hweb _ (by simp) (by simp)⟩
      · clear ho
        rintro l tl tl' i e _ hie ⟨oa, oc, og, rfl, ho⟩
        have hF := open_round l
        have hil : i < (succD (UR rs) n k).length := by have := (List.getElem?_eq_some_iff.1 hie).1; simpa [succD] using this
        have hee : e = [.int .i64 (((succD (UR rs) n k)[i] : Nat) : Int)] := by
          have := (List.getElem?_eq_some_iff.1 hie).2; rw [← this]; simp [succD]
        subst hee
        have hxm : (succD (UR rs) n k)[i] ∈ succD (UR rs) n k := List.getElem_mem _
        generalize hsv : (succD (UR rs) n k)[i] = s at hxm ⊢
        have hx2 : s < n ∧ UR rs k s true = true := by simpa [succD] using hxm
        refine T.region ?_
        refine TL.assign hF rfl rfl ?_
        refine TL.nil ?_
        refine TQ.swapT _ rfl ?_
        refine T.block ?_
        refine T.seq ?_
        refine T.region ?_
        refine TL.load hF rfl (At.own' (i := 6) rfl rfl) rfl ?_
        refine TL.load hF rfl (At.own' (i := 3) rfl rfl) rfl ?_
        refine TL.move hF rfl rfl ?_
        refine TL.build hF rfl (r := KU (k, s)) (fun w => by kernel_rfl) rfl ?_
        refine TL.call hF (round_fn (n := n) (p := k) (q := s) (U := UR rs) (m := m) (by omega) (hweb _ (by simp) (by simp)) hkn hx2.1) rfl rfl ?_
        rintro _ _ ⟨ca, cc, cg, rfl, rfl, hcs⟩
        refine TL.assign hF rfl rfl ?_
        refine TL.nil ?_
        refine TQ.then_n ?_
        refine T.seq ?_
        refine T.region ?_
        refine TL.move hF rfl rfl ?_
        refine TL.len hF rfl rfl ?_
        refine TL.bin hF rfl rfl rfl rfl ?_
        refine TL.move hF rfl rfl ?_
        refine TL.gd (t := 36) rfl (fun g11_36 => ?_) (fun g11_36 => ?_)
        · refine TL.on rfl rfl rfl (decide_eq_true g11_36) ?_
          refine TL.load hF rfl (At.own' (i := 6) rfl rfl) rfl ?_
          refine TL.on rfl rfl rfl (decide_eq_true g11_36) ?_
          refine TL.len hF rfl rfl ?_
          refine TL.on rfl rfl rfl (decide_eq_true g11_36) ?_
          refine TL.bin hF rfl rfl rfl rfl ?_
          refine TL.on rfl rfl rfl (decide_eq_true g11_36) ?_
          refine TL.move hF rfl rfl ?_
          refine TL.gd (t := 40) rfl (fun g11_40 => ?_) (fun g11_40 => ?_)
          · refine TL.off hF rfl rfl rfl (decide_eq_true g11_40) rfl ?_
            refine TL.off hF rfl rfl rfl (decide_eq_true g11_40) rfl ?_
            refine TL.off hF rfl rfl rfl (decide_eq_true g11_40) rfl ?_
            refine TL.off hF rfl rfl rfl (decide_eq_true g11_40) rfl ?_
            refine TL.off hF rfl rfl rfl (decide_eq_true g11_40) rfl ?_
            refine TL.on rfl rfl rfl (decide_eq_true g11_36) ?_
            refine TL.pickT hF rfl (decide_eq_true g11_40) rfl rfl ?_
            refine TL.on rfl rfl rfl (decide_eq_true g11_36) ?_
            refine TL.move hF rfl rfl ?_
            refine TL.off hF rfl rfl rfl rfl rfl ?_
            refine TL.off hF rfl rfl rfl rfl rfl ?_
            refine TL.off hF rfl rfl rfl rfl rfl ?_
            refine TL.off hF rfl rfl rfl rfl rfl ?_
            refine TL.off hF rfl rfl rfl rfl rfl ?_
            refine TL.off hF rfl rfl rfl rfl rfl ?_
            refine TL.offU hF rfl rfl rfl rfl ?_
            refine TL.offU hF rfl rfl rfl rfl ?_
            refine TL.offU hF rfl rfl rfl rfl ?_
            refine TL.offU hF rfl rfl rfl rfl ?_
            refine TL.off hF rfl rfl rfl rfl rfl ?_
            refine TL.on rfl rfl rfl (decide_eq_true g11_36) ?_
            refine TL.pickT hF rfl rfl rfl rfl ?_
            refine TL.pickT hF rfl (decide_eq_true g11_36) rfl rfl ?_
            refine TL.nil ?_
            refine TQ.then_n ?_
            refine T.cond_t rfl rfl ?_
            refine T.region ?_
            refine TL.move hF rfl rfl ?_
            refine TL.storeI hF 6 rfl rfl rfl rfl (by simp) ?_
            refine TL.nil ?_
            refine TQ.block_n ?_
            have hpos : 0 < (roundS (EN (UR rs)) n k s).length := by have h : (0 : Int) < _ := g11_36; omega
            have e : (bestP (UR rs) n k (i + 1)) = roundS (EN (UR rs)) n k s := by rw [bestP_succ hil, hsv]; exact tryP_take hpos (.inl (by have h : ((bestP (UR rs) n k i).length : Int) = 0 := g11_40; omega))
            have ho2 : OSl 3 1 (.slice ca (bestP (UR rs) n k (i + 1)).length cc) (bestP (UR rs) n k (i + 1)).length (nats (bestP (UR rs) n k (i + 1))) cg := by rw [e]; exact hcs
            refine TQ.hsub (cg :: [(c5, .cells #[fnV 61] 72 (0, 0))] :: [(c4, .cells #[.int .i64 (k : Int)] 3 (0, 0))] :: [(c3, .cells #[ptr bw] 59 (0, 0))] :: [(b9, .cells #[.int .i64 (k : Int)] 3 (0, 0))] :: [(b7, .cells #[.slice ca (roundS (EN (UR rs)) n k s).length cc] 23 (0, 0))] :: [(b8, .cells #[.func (.func 34) #[ptr bw] #[]] 66 (0, 0))] :: wseg bw bm n :: [(bm, .map es clock)] :: [(b5, .cells #[.int .i64 0] 27 (0, 0))] :: (marksH ms ++ η) ++ tl') (List.Sublist.cons_cons _ (List.Sublist.cons_cons _ (List.Sublist.cons_cons _ (List.Sublist.cons_cons _ (List.Sublist.cons_cons _ (List.sublist_cons_self _ _)))))) ?_
            refine TQ.hperm ([(c5, .cells #[fnV 61] 72 (0, 0))] :: [(c4, .cells #[.int .i64 (k : Int)] 3 (0, 0))] :: [(c3, .cells #[ptr bw] 59 (0, 0))] :: [(b9, .cells #[.int .i64 (k : Int)] 3 (0, 0))] :: cg :: [(b7, .cells #[.slice ca (roundS (EN (UR rs)) n k s).length cc] 23 (0, 0))] :: [(b8, .cells #[.func (.func 34) #[ptr bw] #[]] 66 (0, 0))] :: wseg bw bm n :: [(bm, .map es clock)] :: [(b5, .cells #[.int .i64 0] 27 (0, 0))] :: (marksH ms ++ η) ++ tl') (List.perm_middle (l₁ := [_, _, _, _])) ?_
            exact TQ.rq_n ([(c5, .cells #[fnV 61] 72 (0, 0))] :: [(c4, .cells #[.int .i64 (k : Int)] 3 (0, 0))] :: [(c3, .cells #[ptr bw] 59 (0, 0))] :: [(b9, .cells #[.int .i64 (k : Int)] 3 (0, 0))] :: cg :: [(b7, .cells #[.slice ca (roundS (EN (UR rs)) n k s).length cc] 23 (0, 0))] :: [(b8, .cells #[.func (.func 34) #[ptr bw] #[]] 66 (0, 0))] :: wseg bw bm n :: [(bm, .map es clock)] :: [(b5, .cells #[.int .i64 0] 27 (0, 0))] :: (marksH ms ++ η)) rfl ⟨ca, cc, cg, by rw [e], ho2⟩
          · refine TL.on rfl rfl rfl (decide_eq_false g11_40) ?_
            refine TL.move hF rfl rfl ?_
            refine TL.on rfl rfl rfl (decide_eq_false g11_40) ?_
            refine TL.len hF rfl rfl ?_
            refine TL.on rfl rfl rfl (decide_eq_false g11_40) ?_
            refine TL.load hF rfl (At.own' (i := 6) rfl rfl) rfl ?_
            refine TL.on rfl rfl rfl (decide_eq_false g11_40) ?_
            refine TL.len hF rfl rfl ?_
            refine TL.on rfl rfl rfl (decide_eq_false g11_40) ?_
            refine TL.bin hF rfl rfl rfl rfl ?_
            refine TL.on rfl rfl rfl (decide_eq_true g11_36) ?_
            refine TL.pickF hF rfl (decide_eq_false g11_40) rfl rfl ?_
            refine TL.on rfl rfl rfl (decide_eq_true g11_36) ?_
            refine TL.move hF rfl rfl ?_
            refine TL.gd (t := 47) rfl (fun g11_47 => ?_) (fun g11_47 => ?_)
            · refine TL.off hF rfl rfl rfl (decide_eq_true g11_47) rfl ?_
              refine TL.off hF rfl rfl rfl (decide_eq_true g11_47) rfl ?_
              refine TL.off hF rfl rfl rfl (decide_eq_true g11_47) rfl ?_
              refine TL.off hF rfl rfl rfl (decide_eq_true g11_47) rfl ?_
              refine TL.off hF rfl rfl rfl (decide_eq_true g11_47) rfl ?_
              refine TL.off hF rfl rfl rfl (decide_eq_true g11_47) rfl ?_
              refine TL.offU hF rfl rfl rfl rfl ?_
              refine TL.offU hF rfl rfl rfl rfl ?_
              refine TL.offU hF rfl rfl rfl rfl ?_
              refine TL.offU hF rfl rfl rfl rfl ?_
              refine TL.off hF rfl rfl rfl (decide_eq_true g11_47) rfl ?_
              refine TL.on rfl rfl rfl (decide_eq_true g11_36) ?_
              refine TL.pickT hF rfl (decide_eq_true g11_47) rfl rfl ?_
              refine TL.pickT hF rfl (decide_eq_true g11_36) rfl rfl ?_
              refine TL.nil ?_
              refine TQ.then_n ?_
              refine T.cond_t rfl rfl ?_
              refine T.region ?_
              refine TL.move hF rfl rfl ?_
              refine TL.storeI hF 6 rfl rfl rfl rfl (by simp) ?_
              refine TL.nil ?_
              refine TQ.block_n ?_
              have hpos : 0 < (roundS (EN (UR rs)) n k s).length := by have h : (0 : Int) < _ := g11_36; omega
              have e : (bestP (UR rs) n k (i + 1)) = roundS (EN (UR rs)) n k s := by rw [bestP_succ hil, hsv]; exact tryP_take hpos (.inr (less_shorter (by have h : ((roundS (EN (UR rs)) n k s).length : Int) < (bestP (UR rs) n k i).length := g11_47; omega)))
              have ho2 : OSl 3 1 (.slice ca (bestP (UR rs) n k (i + 1)).length cc) (bestP (UR rs) n k (i + 1)).length (nats (bestP (UR rs) n k (i + 1))) cg := by rw [e]; exact hcs
              refine TQ.hsub (cg :: [(c5, .cells #[fnV 61] 72 (0, 0))] :: [(c4, .cells #[.int .i64 (k : Int)] 3 (0, 0))] :: [(c3, .cells #[ptr bw] 59 (0, 0))] :: [(b9, .cells #[.int .i64 (k : Int)] 3 (0, 0))] :: [(b7, .cells #[.slice ca (roundS (EN (UR rs)) n k s).length cc] 23 (0, 0))] :: [(b8, .cells #[.func (.func 34) #[ptr bw] #[]] 66 (0, 0))] :: wseg bw bm n :: [(bm, .map es clock)] :: [(b5, .cells #[.int .i64 0] 27 (0, 0))] :: (marksH ms ++ η) ++ tl') (List.Sublist.cons_cons _ (List.Sublist.cons_cons _ (List.Sublist.cons_cons _ (List.Sublist.cons_cons _ (List.Sublist.cons_cons _ (List.sublist_cons_self _ _)))))) ?_
              refine TQ.hperm ([(c5, .cells #[fnV 61] 72 (0, 0))] :: [(c4, .cells #[.int .i64 (k : Int)] 3 (0, 0))] :: [(c3, .cells #[ptr bw] 59 (0, 0))] :: [(b9, .cells #[.int .i64 (k : Int)] 3 (0, 0))] :: cg :: [(b7, .cells #[.slice ca (roundS (EN (UR rs)) n k s).length cc] 23 (0, 0))] :: [(b8, .cells #[.func (.func 34) #[ptr bw] #[]] 66 (0, 0))] :: wseg bw bm n :: [(bm, .map es clock)] :: [(b5, .cells #[.int .i64 0] 27 (0, 0))] :: (marksH ms ++ η) ++ tl') (List.perm_middle (l₁ := [_, _, _, _])) ?_
              exact TQ.rq_n ([(c5, .cells #[fnV 61] 72 (0, 0))] :: [(c4, .cells #[.int .i64 (k : Int)] 3 (0, 0))] :: [(c3, .cells #[ptr bw] 59 (0, 0))] :: [(b9, .cells #[.int .i64 (k : Int)] 3 (0, 0))] :: cg :: [(b7, .cells #[.slice ca (roundS (EN (UR rs)) n k s).length cc] 23 (0, 0))] :: [(b8, .cells #[.func (.func 34) #[ptr bw] #[]] 66 (0, 0))] :: wseg bw bm n :: [(bm, .map es clock)] :: [(b5, .cells #[.int .i64 0] 27 (0, 0))] :: (marksH ms ++ η)) rfl ⟨ca, cc, cg, by rw [e], ho2⟩
            · refine TL.on rfl rfl rfl (decide_eq_false g11_47) ?_
              refine TL.move hF rfl rfl ?_
              refine TL.on rfl rfl rfl (decide_eq_false g11_47) ?_
              refine TL.len hF rfl rfl ?_
              refine TL.on rfl rfl rfl (decide_eq_false g11_47) ?_
              refine TL.load hF rfl (At.own' (i := 6) rfl rfl) rfl ?_
              refine TL.on rfl rfl rfl (decide_eq_false g11_47) ?_
              refine TL.len hF rfl rfl ?_
              refine TL.on rfl rfl rfl (decide_eq_false g11_47) ?_
              refine TL.bin hF rfl rfl rfl rfl ?_
              refine TL.on rfl rfl rfl (decide_eq_false g11_47) ?_
              refine TL.move hF rfl rfl ?_
              refine TL.gd (t := 53) rfl (fun g11_53 => ?_) (fun g11_53 => ?_)
              · refine TL.on rfl rfl rfl (decide_eq_true g11_53) ?_
                refine TL.move hF rfl rfl ?_
                refine TL.on rfl rfl rfl (decide_eq_true g11_53) ?_
                refine TL.load hF rfl (At.own' (i := 6) rfl rfl) rfl ?_
                refine TL.on rfl rfl rfl (decide_eq_true g11_53) ?_
                refine TL.callV hF (CompareN_fn (hcs.row (by simp)) (ho.row (by simp)) (by have := round_len (E := EN (UR rs)) hkn hx2.1; omega)) rfl rfl ?_
                refine TL.on rfl rfl rfl (decide_eq_true g11_53) ?_
                refine TL.bin hF rfl rfl rfl rfl ?_
                refine TL.on rfl rfl rfl (decide_eq_false g11_47) ?_
                refine TL.pickT hF rfl (decide_eq_true g11_53) rfl rfl ?_
                refine TL.on rfl rfl rfl (decide_eq_true g11_36) ?_
                refine TL.pickF hF rfl (decide_eq_false g11_47) rfl rfl ?_
                refine TL.pickT hF rfl (decide_eq_true g11_36) rfl rfl ?_
                refine TL.nil ?_
                refine TQ.then_n ?_
                first | refine T.cond_d rfl (fun ht60 => ?_) (fun ht60 => ?_) | refine T.cond _ rfl (fun ht60 => ?_) (fun ht60 => ?_)
                · refine T.region ?_
                  refine TL.move hF rfl rfl ?_
                  refine TL.storeI hF 6 rfl rfl rfl rfl (by simp) ?_
                  refine TL.nil ?_
                  refine TQ.block_n ?_
                  have hpos : 0 < (roundS (EN (UR rs)) n k s).length := by have h : (0 : Int) < _ := g11_36; omega
                  have e : (bestP (UR rs) n k (i + 1)) = roundS (EN (UR rs)) n k s := by rw [bestP_succ hil, hsv]; exact tryP_take hpos (.inr (by rw [less_same (by have h : ((roundS (EN (UR rs)) n k s).length : Int) = (bestP (UR rs) n k i).length := g11_53; omega)]; exact decide_eq_true ht60))
                  have ho2 : OSl 3 1 (.slice ca (bestP (UR rs) n k (i + 1)).length cc) (bestP (UR rs) n k (i + 1)).length (nats (bestP (UR rs) n k (i + 1))) cg := by rw [e]; exact hcs
                  refine TQ.hsub (cg :: [(c5, .cells #[fnV 61] 72 (0, 0))] :: [(c4, .cells #[.int .i64 (k : Int)] 3 (0, 0))] :: [(c3, .cells #[ptr bw] 59 (0, 0))] :: [(b9, .cells #[.int .i64 (k : Int)] 3 (0, 0))] :: [(b7, .cells #[.slice ca (roundS (EN (UR rs)) n k s).length cc] 23 (0, 0))] :: [(b8, .cells #[.func (.func 34) #[ptr bw] #[]] 66 (0, 0))] :: wseg bw bm n :: [(bm, .map es clock)] :: [(b5, .cells #[.int .i64 0] 27 (0, 0))] :: (marksH ms ++ η) ++ tl') (List.Sublist.cons_cons _ (List.Sublist.cons_cons _ (List.Sublist.cons_cons _ (List.Sublist.cons_cons _ (List.Sublist.cons_cons _ (List.sublist_cons_self _ _)))))) ?_
                  refine TQ.hperm ([(c5, .cells #[fnV 61] 72 (0, 0))] :: [(c4, .cells #[.int .i64 (k : Int)] 3 (0, 0))] :: [(c3, .cells #[ptr bw] 59 (0, 0))] :: [(b9, .cells #[.int .i64 (k : Int)] 3 (0, 0))] :: cg :: [(b7, .cells #[.slice ca (roundS (EN (UR rs)) n k s).length cc] 23 (0, 0))] :: [(b8, .cells #[.func (.func 34) #[ptr bw] #[]] 66 (0, 0))] :: wseg bw bm n :: [(bm, .map es clock)] :: [(b5, .cells #[.int .i64 0] 27 (0, 0))] :: (marksH ms ++ η) ++ tl') (List.perm_middle (l₁ := [_, _, _, _])) ?_
                  exact TQ.rq_n ([(c5, .cells #[fnV 61] 72 (0, 0))] :: [(c4, .cells #[.int .i64 (k : Int)] 3 (0, 0))] :: [(c3, .cells #[ptr bw] 59 (0, 0))] :: [(b9, .cells #[.int .i64 (k : Int)] 3 (0, 0))] :: cg :: [(b7, .cells #[.slice ca (roundS (EN (UR rs)) n k s).length cc] 23 (0, 0))] :: [(b8, .cells #[.func (.func 34) #[ptr bw] #[]] 66 (0, 0))] :: wseg bw bm n :: [(bm, .map es clock)] :: [(b5, .cells #[.int .i64 0] 27 (0, 0))] :: (marksH ms ++ η)) rfl ⟨ca, cc, cg, by rw [e], ho2⟩
                · refine T.skip ?_
                  refine TQ.block_n ?_
                  have e : (bestP (UR rs) n k (i + 1)) = (bestP (UR rs) n k i) := by rw [bestP_succ hil, hsv]; exact tryP_keep (by
                    rintro (h | h)
                    · have h2 : ¬ ((bestP (UR rs) n k i).length : Int) = 0 := g11_40
                      omega
                    · rw [less_same (by have h : ((roundS (EN (UR rs)) n k s).length : Int) = (bestP (UR rs) n k i).length := g11_53; omega)] at h
                      exact ht60 (of_decide_eq_true h))
                  refine TQ.pop ?_
                  exact TQ.rq_n ([(c5, .cells #[fnV 61] 72 (0, 0))] :: [(c4, .cells #[.int .i64 (k : Int)] 3 (0, 0))] :: [(c3, .cells #[ptr bw] 59 (0, 0))] :: [(b9, .cells #[.int .i64 (k : Int)] 3 (0, 0))] :: og :: [(b7, .cells #[.slice oa (bestP (UR rs) n k i).length oc] 23 (0, 0))] :: [(b8, .cells #[.func (.func 34) #[ptr bw] #[]] 66 (0, 0))] :: wseg bw bm n :: [(bm, .map es clock)] :: [(b5, .cells #[.int .i64 0] 27 (0, 0))] :: (marksH ms ++ η)) rfl ⟨oa, oc, og, by rw [e], by rw [e]; exact ho⟩
              · refine TL.off hF rfl rfl rfl (decide_eq_false g11_53) rfl ?_
                refine TL.off hF rfl rfl rfl (decide_eq_false g11_53) rfl ?_
                refine TL.off hF rfl rfl rfl (decide_eq_false g11_53) rfl ?_
                refine TL.off hF rfl rfl rfl (decide_eq_false g11_53) rfl ?_
                refine TL.on rfl rfl rfl (decide_eq_false g11_47) ?_
                refine TL.pickF hF rfl (decide_eq_false g11_53) rfl rfl ?_
                refine TL.on rfl rfl rfl (decide_eq_true g11_36) ?_
                refine TL.pickF hF rfl (decide_eq_false g11_47) rfl rfl ?_
                refine TL.pickT hF rfl (decide_eq_true g11_36) rfl rfl ?_
                refine TL.nil ?_
                refine TQ.then_n ?_
                refine T.cond_f rfl rfl ?_
                refine T.skip ?_
                refine TQ.block_n ?_
                have e : (bestP (UR rs) n k (i + 1)) = (bestP (UR rs) n k i) := by rw [bestP_succ hil, hsv]; exact tryP_keep (by
                  rintro (h | h)
                  · have h2 : ¬ ((bestP (UR rs) n k i).length : Int) = 0 := g11_40
                    omega
                  · have h2 : ¬ ((roundS (EN (UR rs)) n k s).length : Int) < (bestP (UR rs) n k i).length := g11_47
                    have h3 : ¬ ((roundS (EN (UR rs)) n k s).length : Int) = (bestP (UR rs) n k i).length := g11_53
                    rw [less_longer (by omega) (by omega)] at h
                    cases h)
                refine TQ.pop ?_
                exact TQ.rq_n ([(c5, .cells #[fnV 61] 72 (0, 0))] :: [(c4, .cells #[.int .i64 (k : Int)] 3 (0, 0))] :: [(c3, .cells #[ptr bw] 59 (0, 0))] :: [(b9, .cells #[.int .i64 (k : Int)] 3 (0, 0))] :: og :: [(b7, .cells #[.slice oa (bestP (UR rs) n k i).length oc] 23 (0, 0))] :: [(b8, .cells #[.func (.func 34) #[ptr bw] #[]] 66 (0, 0))] :: wseg bw bm n :: [(bm, .map es clock)] :: [(b5, .cells #[.int .i64 0] 27 (0, 0))] :: (marksH ms ++ η)) rfl ⟨oa, oc, og, by rw [e], by rw [e]; exact ho⟩
        · refine TL.off hF rfl rfl rfl (decide_eq_false g11_36) rfl ?_
          refine TL.off hF rfl rfl rfl (decide_eq_false g11_36) rfl ?_
          refine TL.off hF rfl rfl rfl (decide_eq_false g11_36) rfl ?_
          refine TL.off hF rfl rfl rfl (decide_eq_false g11_36) rfl ?_
          refine TL.offU hF rfl rfl rfl rfl ?_
          refine TL.offU hF rfl rfl rfl rfl ?_
          refine TL.offU hF rfl rfl rfl rfl ?_
          refine TL.offU hF rfl rfl rfl rfl ?_
          refine TL.offU hF rfl rfl rfl rfl ?_
          refine TL.off hF rfl rfl rfl (decide_eq_false g11_36) rfl ?_
          refine TL.off hF rfl rfl rfl (decide_eq_false g11_36) rfl ?_
          refine TL.offU hF rfl rfl rfl rfl ?_
          refine TL.offU hF rfl rfl rfl rfl ?_
          refine TL.offU hF rfl rfl rfl rfl ?_
          refine TL.offU hF rfl rfl rfl rfl ?_
          refine TL.offU hF rfl rfl rfl rfl ?_
          refine TL.offU hF rfl rfl rfl rfl ?_
          refine TL.offU hF rfl rfl rfl rfl ?_
          refine TL.offU hF rfl rfl rfl rfl ?_
          refine TL.offU hF rfl rfl rfl rfl ?_
          refine TL.offU hF rfl rfl rfl rfl ?_
          refine TL.offU hF rfl rfl rfl rfl ?_
          refine TL.off hF rfl rfl rfl (decide_eq_false g11_36) rfl ?_
          refine TL.pickF hF rfl (decide_eq_false g11_36) rfl rfl ?_
          refine TL.nil ?_
          refine TQ.then_n ?_
          refine T.cond_f rfl rfl ?_
          refine T.skip ?_
          refine TQ.block_n ?_
          have e : (bestP (UR rs) n k (i + 1)) = (bestP (UR rs) n k i) := by rw [bestP_succ hil, hsv]; exact tryP_none (by have h : ¬ (0 : Int) < _ := g11_36; omega)
          refine TQ.pop ?_
          exact TQ.rq_n ([(c5, .cells #[fnV 61] 72 (0, 0))] :: [(c4, .cells #[.int .i64 (k : Int)] 3 (0, 0))] :: [(c3, .cells #[ptr bw] 59 (0, 0))] :: [(b9, .cells #[.int .i64 (k : Int)] 3 (0, 0))] :: og :: [(b7, .cells #[.slice oa (bestP (UR rs) n k i).length oc] 23 (0, 0))] :: [(b8, .cells #[.func (.func 34) #[ptr bw] #[]] 66 (0, 0))] :: wseg bw bm n :: [(bm, .map es clock)] :: [(b5, .cells #[.int .i64 0] 27 (0, 0))] :: (marksH ms ++ η)) rfl ⟨oa, oc, og, by rw [e], by rw [e]; exact ho⟩
      · clear ho
        rintro mk _ ⟨oa, oc, og, rfl, ho⟩
        rw [List.length_map, ← succD, bestP_all] at ho
        rw [List.length_map, ← succD, bestP_all]
        refine TQ.block_n ?_
        refine TQ.block_n ?_
        refine TQ.then_n ?_
        refine T.region ?_
        refine TL.add hF rfl rfl (by omega) (by omega) rfl ?_
        refine TL.move hF rfl rfl ?_
        refine TL.nil ?_
        refine TQ.hsub ([(mk, .deferred (some []))] :: og :: [(b7, .cells #[.slice oa (bestS (EN (UR rs)) (DN (UR rs)) n (k + 1)).length oc] 23 (0, 0))] :: [(b8, .cells #[.func (.func 34) #[ptr bw] #[]] 66 (0, 0))] :: wseg bw bm n :: [(bm, .map es clock)] :: [(b5, .cells #[.int .i64 0] 27 (0, 0))] :: (marksH ms ++ η)) (List.Sublist.cons_cons _ (List.Sublist.cons _ (List.Sublist.cons _ (List.Sublist.cons _ (List.sublist_cons_self _ _))))) ?_
        refine TQ.hperm (og :: [(b7, .cells #[.slice oa (bestS (EN (UR rs)) (DN (UR rs)) n (k + 1)).length oc] 23 (0, 0))] :: [(b8, .cells #[.func (.func 34) #[ptr bw] #[]] 66 (0, 0))] :: wseg bw bm n :: [(bm, .map es clock)] :: [(b5, .cells #[.int .i64 0] 27 (0, 0))] :: (marksH (mk :: ms) ++ η)) (List.perm_middle (l₁ := [_, _, _, _, _, _])) ?_
        exact TQ.roundD (k + 1, oa, oc, og, mk :: ms) ⟨by simp only; omega, ho⟩ (by simp only; omega) ⟨rfl, rfl, rfl, rfl, rfl, rfl, rfl, trivial⟩ rfl rfl
      · rintro _ _ _ h; exact h.elim
    · refine T.exit ?_
      refine TQ.then_x ?_
      refine TQ.then_x ?_
      refine TQ.block_x ?_
      refine TQ.then_n ?_
      refine T.seq ?_
      refine T.region ?_
      refine TL.load hF rfl (At.own' (i := 1) rfl rfl) rfl ?_
      refine TL.len hF rfl rfl ?_
      refine TL.bin hF rfl rfl rfl rfl ?_
      refine TL.callE hF (must_fn _ 4) rfl rfl ?_ ?_
      · rintro _ _ ⟨hpos, rfl⟩
        refine TL.nil ?_
        refine TQ.then_n ?_
        refine T.seq ?_
        refine T.region ?_
        refine TL.load hF rfl (At.own' (i := 1) rfl rfl) rfl ?_
        refine TL.assign hF rfl rfl ?_
        refine TL.storeI hF 5 rfl rfl rfl rfl (by simp) ?_
        refine TL.nil ?_
        refine TQ.then_n ?_
        refine T.ret ?_
        have hkn : k = n := by have h : ¬ (k : Int) < n := ht20; omega
        subst hkn
        refine TQ.hsub (og :: [(b5, .cells #[.int .i64 0] 27 (0, 0))] :: (marksH ms ++ η)) (List.Sublist.cons_cons _ (List.Sublist.cons _ (List.Sublist.cons _ (List.Sublist.cons _ (List.sublist_cons_self _ _))))) ?_
        refine TQ.hperm (marksH ms ++ og :: [(b5, .cells #[.int .i64 0] 27 (0, 0))] :: η) ((List.perm_middle (l₁ := marksH ms)).trans ((List.perm_middle (l₁ := marksH ms)).cons _)) ?_
        refine TQ.marks (.inl rfl) ?_ ms
        refine TQ.retL [4] _ stop33 (stopped_nil _) rfl rfl rfl (own_mem (cs := #[.int .i64 0]) (e := 27) (fz := (0, 0)) (by simp) rfl) ?_
        have h0 : ¬ (bestS (EU rs) (ED rs) k k).length = 0 := by have h : (0 : Int) < ((bestS (EN (UR rs)) (DN (UR rs)) k k).length : Int) := of_decide_eq_true hpos; show ¬ (bestS (EN (UR rs)) (DN (UR rs)) k k).length = 0; omega
        have e : reasonS k rs = (bestS (EN (UR rs)) (DN (UR rs)) k k, 0) := by unfold reasonS; rw [if_neg (by simpa using hck), Int.toNat_natCast, if_neg h0]
        rw [e]
        exact ⟨oa, oc, [og, [(b5, .cells #[.int .i64 0] 27 (0, 0))]], rfl, rfl, ho.row (by simp)⟩
      · rintro _ _ ⟨hpos, rfl, rfl⟩
        refine TQ.then_p ?_
        have hkn : k = n := by have h : ¬ (k : Int) < n := ht20; omega
        subst hkn
        refine TQ.hsub ([(b5, .cells #[.int .i64 0] 27 (0, 0))] :: (marksH ms ++ η)) (List.Sublist.cons _ (List.Sublist.cons _ (List.Sublist.cons _ (List.Sublist.cons _ (List.sublist_cons_self _ _))))) ?_
        refine TQ.hperm (marksH ms ++ [(b5, .cells #[.int .i64 0] 27 (0, 0))] :: η) List.perm_middle ?_
        refine TQ.marks (.inr ⟨_, rfl⟩) ?_ ms
        refine TQ.panL [4] [.slice none 0 0] stop33 (stopped_err 4) rfl rfl rfl (At.own' (i := 0) rfl rfl) ?_
        have h0 : (bestS (EU rs) (ED rs) k k).length = 0 := by have h : ¬ (0 : Int) < ((bestS (EN (UR rs)) (DN (UR rs)) k k).length : Int) := of_decide_eq_false hpos; show (bestS (EN (UR rs)) (DN (UR rs)) k k).length = 0; omega
        have e : reasonS k rs = ([], 4) := by unfold reasonS; rw [if_neg (by simpa using hck), Int.toNat_natCast, if_pos h0]
        rw [e]
        exact ⟨none, 0, [[(b5, .cells #[.int .i64 4] 27 (0, 0))]], rfl, rfl, ⟨fun h => by simp at h, fun i v h => by simp [nats] at h⟩⟩
  · rintro _ _ ⟨hck, rfl, rfl⟩
    refine TQ.then_p ?_
    refine TQ.panL [4] [.slice none 0 0] stop33 (stopped_err _) rfl rfl rfl (At.own' (i := 0) rfl rfl) ?_
    have e : reasonS rels rs = ([], check rels rs) := by unfold reasonS; rw [if_pos hck]
    rw [e]
    exact ⟨none, 0, [[(b5, .cells #[.int .i64 (check rels rs)] 27 (0, 0))]], rfl, rfl, ⟨fun h => by simp at h, fun i v h => by simp [nats] at h⟩⟩
end Go.Proofs.Ytdehpaikapbckaa
