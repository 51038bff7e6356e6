/- Lists of lists; the reference's check, and its uses. -/
import Derived.Test.YtdehpaikapbckaaW1
namespace Go.Proofs.Ytdehpaikapbckaa
open Go.Sl
variable {S : Nat → Prop} {w0 : World} {η : Heap}
theorem Lists.item {a : Option Addr} {ls : List (List Int)} (h : Lists S w0 η a ls) : ∃ f : Nat → Option Addr × Nat, (∀ i (hi : i < ls.length), At S w0 η (sAt a (i * 1)) (.slice (f i).1 ls[i].length (f i).2) ∧ Row S w0 η (f i).1 (ints ls[i])) ∧ (∀ i, i < ls.length → ∃ ad, a = some ad ∧ ad.spot = none) := by
  obtain ⟨ps, hl, hr, hi⟩ := h
  refine ⟨fun i => ps.getD i (none, 0), fun i h1 => ?_, fun i h1 => hr.adi (i := i) (by simp; omega)⟩
  have h2 : i < ps.length := by omega
  refine ⟨?_, ?_⟩
  · rw [Nat.mul_one]; exact hr.cell i _ (by simp [List.getElem?_zipWith, List.getD_eq_getElem?_getD, h1, h2])
  · have := hi i h2 h1; simpa [List.getD_eq_getElem?_getD, h2] using this
theorem Lists.len {a : Option Addr} {ls : List (List Int)} (h : Lists S w0 η a ls) : True := trivial

set_option maxHeartbeats 2000000 in
theorem EqualLists_fn {a b : Option Addr} {xs ys : List (List Int)} {ca cb : Nat} (hx : Lists S w0 η a xs) (hy : Lists S w0 η b ys) (hl : xs.length < 2 ^ 63) (hlx : ∀ l ∈ xs, l.length < 2 ^ 63) :
    Rt Try.prog 18 [.slice a xs.length ca, .slice b ys.length cb].toArray S w0 η (fun v η' => v = .bool (decide (xs = ys)) ∧ η' = η) := by
  have hF := open_wide
  refine Rt.of (fn := Try.f18) Try.func18 rfl rfl ?_
  refine T.seq ?_
  refine T.region ?_
  refine TL.assign hF rfl rfl ?_
  refine TL.nil ?_
  refine TQ.then_n ?_
  refine T.seq ?_
  refine T.region ?_
  refine TL.move hF rfl rfl ?_
  refine TL.len hF rfl rfl ?_
  refine TL.move hF rfl rfl ?_
  refine TL.len hF rfl rfl ?_
  refine TL.bin hF rfl rfl rfl rfl ?_
  refine TL.assign hF rfl rfl ?_
  refine TL.nil ?_
  refine TQ.then_n ?_
  refine T.seq ?_
  refine T.seq ?_
  refine T.region ?_
  refine TL.assign hF rfl rfl ?_
  refine TL.nil ?_
  refine TQ.then_n ?_
  refine T.block ?_
  obtain ⟨fx, hx1, hx2⟩ := hx.item
  obtain ⟨fy, hy1, hy2⟩ := hy.item
  refine T.loop (ι := Nat × Bool) (fun i => i.1 ≤ xs.length ∧ (i.2 = true → xs.length = ys.length ∧ xs.take i.1 = ys.take i.1) ∧ (i.2 = false → xs ≠ ys)) (fun i => [(0, .slice a xs.length ca), (1, .slice b ys.length cb), (5, .bool i.2), (6, .int .i64 (i.1 : Int))]) (fun _ => η) (fun i => xs.length - i.1) (0, decide ((xs.length : Int) = ys.length)) ⟨Nat.zero_le _, fun h => ⟨by simpa [Int.ofNat_inj] using h, by simp⟩, fun h e => by subst e; simp at h⟩ ⟨rfl, rfl, rfl, rfl, trivial⟩ rfl ?_
  rintro ⟨k, s⟩ ⟨hk, hs1, hs2⟩
  simp only at hk hs1 hs2
  refine T.seq ?_
  refine T.seq ?_
  refine T.region ?_
  refine TL.move hF rfl rfl ?_
  refine TL.move hF rfl rfl ?_
  refine TL.gb (t := 13) rfl (fun g3_13 => ?_) (fun g3_13 => ?_)
  · refine TL.on rfl rfl rfl g3_13 ?_
    refine TL.move hF rfl rfl ?_
    refine TL.on rfl rfl rfl g3_13 ?_
    refine TL.move hF rfl rfl ?_
    refine TL.on rfl rfl rfl g3_13 ?_
    refine TL.len hF rfl rfl ?_
    refine TL.on rfl rfl rfl g3_13 ?_
    refine TL.bin hF rfl rfl rfl rfl ?_
    refine TL.pickT hF rfl g3_13 rfl rfl ?_
    refine TL.nil ?_
    refine TQ.then_n ?_
    first | refine T.cond_d rfl (fun ht18 => ?_) (fun ht18 => ?_) | refine T.cond _ rfl (fun ht18 => ?_) (fun ht18 => ?_)
    · refine T.skip ?_
      refine TQ.then_n ?_
      refine T.seq ?_
      refine T.block ?_
      refine T.draw ?_
      refine DR.stepV [_] rfl [(0, _, none)] rfl rfl ⟨⟨rfl, by kernel_rfl⟩, trivial⟩ (fun ext => TL.move hF rfl rfl TL.fin) ?_
      refine DR.stepV [_, _] rfl [(6, _, none)] rfl rfl ⟨⟨rfl, by kernel_rfl⟩, trivial⟩ (fun ext => TL.move hF rfl rfl TL.fin) ?_
      refine DR.stepV [_, _, _] rfl [(21, _, some 0), (22, _, some 1)] rfl rfl ⟨⟨rfl, rfl, rfl⟩, ⟨rfl, rfl, rfl⟩, trivial⟩ (fun ext => TL.indexAddr hF rfl rfl (hx2 k (by omega)) (by omega) (by omega) rfl TL.fin) ?_
      refine DR.stepV [_, _, _, _] rfl [(23, _, some 2)] rfl rfl ⟨⟨rfl, rfl, rfl⟩, trivial⟩ (fun ext => TL.load hF rfl (hx1 k (by omega)).1 rfl TL.fin) ?_
      refine DR.stepV [_, _, _, _, _] rfl [(1, _, none)] rfl rfl ⟨⟨rfl, by kernel_rfl⟩, trivial⟩ (fun ext => TL.move hF rfl rfl TL.fin) ?_
      refine DR.stepV [_, _, _, _, _, _] rfl [(6, _, none)] rfl rfl ⟨⟨rfl, by kernel_rfl⟩, trivial⟩ (fun ext => TL.move hF rfl rfl TL.fin) ?_
      refine DR.stepV [_, _, _, _, _, _, _] rfl [(25, _, some 4), (26, _, some 5)] rfl rfl ⟨⟨rfl, rfl, rfl⟩, ⟨rfl, rfl, rfl⟩, trivial⟩ (fun ext => TL.indexAddr hF rfl rfl (hy2 k (by have := (hs1 g3_13).1; omega)) (by omega) (by have := (hs1 g3_13).1; omega) rfl TL.fin) ?_
      refine DR.stepV [_, _, _, _, _, _, _, _] rfl [(27, _, some 6)] rfl rfl ⟨⟨rfl, rfl, rfl⟩, trivial⟩ (fun ext => TL.load hF rfl (hy1 k (by have := (hs1 g3_13).1; omega)).1 rfl TL.fin) ?_
      refine DR.done [(28, _), (27, _), (26, _), (25, _), (24, _), (23, _), (22, _), (21, _)] [_, _] mixed (by kernel_rfl) (by kernel_rfl) (by kernel_rfl) rfl rfl ?_
      refine TL.callV hF (Equal_fn (hx1 k (by omega)).2 (hy1 k (by have := (hs1 g3_13).1; omega)).2 (hlx _ (List.getElem_mem _))) rfl rfl ?_
      refine TL.assign hF rfl rfl ?_
      refine TL.nil ?_
      refine TQ.block_n ?_
      refine TQ.then_n ?_
      refine T.region ?_
      refine TL.move hF rfl rfl ?_
      refine TL.add hF rfl rfl (by omega) (by omega) rfl ?_
      refine TL.assign hF rfl rfl ?_
      refine TL.nil ?_
      refine TQ.round (k + 1, decide (xs[k]'(by omega) = ys[k]'(by have := (hs1 g3_13).1; omega))) ⟨by simp only; omega, fun h => ⟨(hs1 g3_13).1, take_succ_eq _ _ (hs1 g3_13).2 (of_decide_eq_true h)⟩, fun h => ne_of_getElem _ _ (of_decide_eq_false h)⟩ (by simp only; omega) ⟨rfl, rfl, rfl, rfl, trivial⟩ rfl
    · refine T.exit ?_
      refine TQ.then_x ?_
      refine TQ.then_x ?_
      refine TQ.block_x ?_
      refine TQ.then_n ?_
      refine T.seq ?_
      refine T.region ?_
      refine TL.move hF rfl rfl ?_
      refine TL.assign hF rfl rfl ?_
      refine TL.nil ?_
      refine TQ.then_n ?_
      refine T.ret ?_
      refine TQ.rets [4] _ rfl rfl rfl ?_
      subst g3_13
      have h1 := hs1 rfl
      have h2 : xs = ys := by have := h1.2; rwa [List.take_of_length_le (by omega), List.take_of_length_le (by omega)] at this
      exact ⟨by simp [retVal, h2], rfl⟩
  · refine TL.off hF rfl rfl rfl g3_13 rfl ?_
    refine TL.off hF rfl rfl rfl g3_13 rfl ?_
    refine TL.off hF rfl rfl rfl g3_13 rfl ?_
    refine TL.off hF rfl rfl rfl g3_13 rfl ?_
    refine TL.pickF hF rfl g3_13 rfl rfl ?_
    refine TL.nil ?_
    refine TQ.then_n ?_
    refine T.cond_f rfl rfl ?_
    refine T.exit ?_
    refine TQ.then_x ?_
    refine TQ.then_x ?_
    refine TQ.block_x ?_
    refine TQ.then_n ?_
    refine T.seq ?_
    refine T.region ?_
    refine TL.move hF rfl rfl ?_
    refine TL.assign hF rfl rfl ?_
    refine TL.nil ?_
    refine TQ.then_n ?_
    refine T.ret ?_
    refine TQ.rets [4] _ rfl rfl rfl ?_
    subst g3_13
    exact ⟨by simp [retVal, hs2 rfl], rfl⟩
set_option maxHeartbeats 2000000 in
theorem Check_fn {a : Option Addr} {rs : List RuleD} {c : Nat} (rels : Int) (hr : Rules S w0 η a rs) (hl : rs.length < 2 ^ 63) :
    Rt Try.prog 29 [.int .i64 rels, .slice a rs.length c].toArray S w0 η (fun v η' => v = .int .i64 (check rels rs) ∧ η' = η) := by
  have hF := open_wide
  refine Rt.of (fn := Try.f29) Try.func29 rfl rfl ?_
  refine T.seq ?_
  refine T.region ?_
  refine TL.assign hF rfl rfl ?_
  refine TL.nil ?_
  refine TQ.then_n ?_
  refine T.seq ?_
  refine T.seq ?_
  refine T.region ?_
  refine TL.move hF rfl rfl ?_
  refine TL.bin hF rfl rfl rfl rfl ?_
  refine TL.move hF rfl rfl ?_
  refine TL.gd (t := 10) rfl (fun g1_10 => ?_) (fun g1_10 => ?_)
  · refine TL.off hF rfl rfl rfl (decide_eq_true g1_10) rfl ?_
    refine TL.off hF rfl rfl rfl (decide_eq_true g1_10) rfl ?_
    refine TL.pickT hF rfl (decide_eq_true g1_10) rfl rfl ?_
    refine TL.nil ?_
    refine TQ.then_n ?_
    refine T.cond_t rfl rfl ?_
    refine T.seq ?_
    refine T.region ?_
    refine TL.assign hF rfl rfl ?_
    refine TL.nil ?_
    refine TQ.then_n ?_
    refine T.ret ?_
    refine TQ.then_r ?_
    refine TQ.rets [4] _ rfl rfl rfl ?_
    exact ⟨by simp [retVal, check, g1_10], rfl⟩
  · refine TL.on rfl rfl rfl (decide_eq_false g1_10) ?_
    refine TL.move hF rfl rfl ?_
    refine TL.on rfl rfl rfl (decide_eq_false g1_10) ?_
    refine TL.bin hF rfl rfl rfl rfl ?_
    refine TL.pickF hF rfl (decide_eq_false g1_10) rfl rfl ?_
    refine TL.nil ?_
    refine TQ.then_n ?_
    first | refine T.cond_d rfl (fun ht13 => ?_) (fun ht13 => ?_) | refine T.cond _ rfl (fun ht13 => ?_) (fun ht13 => ?_)
    · refine T.seq ?_
      refine T.region ?_
      refine TL.assign hF rfl rfl ?_
      refine TL.nil ?_
      refine TQ.then_n ?_
      refine T.ret ?_
      refine TQ.then_r ?_
      refine TQ.rets [4] _ rfl rfl rfl ?_
      exact ⟨by simp [retVal, check, g1_10, ht13], rfl⟩
    · refine T.skip ?_
      refine TQ.then_n ?_
      refine T.seq ?_
      refine T.seq ?_
      refine T.region ?_
      refine TL.move hF rfl rfl ?_
      refine TL.len hF rfl rfl ?_
      refine TL.bin hF rfl rfl rfl rfl ?_
      refine TL.nil ?_
      refine TQ.then_n ?_
      first | refine T.cond_d rfl (fun ht16 => ?_) (fun ht16 => ?_) | refine T.cond _ rfl (fun ht16 => ?_) (fun ht16 => ?_)
      · refine T.seq ?_
        refine T.region ?_
        refine TL.assign hF rfl rfl ?_
        refine TL.nil ?_
        refine TQ.then_n ?_
        refine T.ret ?_
        refine TQ.then_r ?_
        refine TQ.rets [4] _ rfl rfl rfl ?_
        exact ⟨by simp [retVal, check, g1_10, ht13, show 60 < rs.length by omega], rfl⟩
      · refine T.skip ?_
        refine TQ.then_n ?_
        refine T.seq ?_
        refine T.seq ?_
        refine T.region ?_
        refine TL.assign hF rfl rfl ?_
        refine TL.nil ?_
        refine TQ.then_n ?_
        refine T.block ?_
        have ht16' : ¬ 60 < rs.length := by omega
        refine T.loop (ι := Nat) (fun k => k ≤ rs.length ∧ check rels rs = errs rels (rs.drop k)) (fun k => [(0, .int .i64 rels), (1, .slice a rs.length c), (5, .int .i64 (k : Int))]) (fun _ => η) (fun k => rs.length - k) 0 ⟨Nat.zero_le _, by simp [check, g1_10, ht13, ht16']⟩ ⟨rfl, rfl, rfl, trivial⟩ rfl ?_
        rintro k ⟨hk, hs⟩
        refine T.seq ?_
        refine T.seq ?_
        refine T.region ?_
        refine TL.move hF rfl rfl ?_
        refine TL.move hF rfl rfl ?_
        refine TL.len hF rfl rfl ?_
        refine TL.bin hF rfl rfl rfl rfl ?_
        refine TL.nil ?_
        refine TQ.then_n ?_
        first | refine T.cond_d rfl (fun ht20 => ?_) (fun ht20 => ?_) | refine T.cond _ rfl (fun ht20 => ?_) (fun ht20 => ?_)
        · refine T.skip ?_
          refine TQ.then_n ?_
          refine T.seq ?_
          refine T.block ?_
          refine T.seq ?_
          refine T.region ?_
          refine TL.move hF rfl rfl ?_
          refine TL.move hF rfl rfl ?_
          refine TL.indexAddr hF rfl rfl (hr.ad (by omega)) (by omega) (by omega) rfl ?_
          refine TL.fieldAddr hF rfl rfl ?_
          refine TL.fieldAddr hF rfl rfl ?_
          refine TL.load hF rfl (hr.at (i := k) (by omega) 2 rfl) rfl ?_
          refine TL.assign hF rfl rfl ?_
          refine TL.nil ?_
          refine TQ.then_n ?_
          refine T.seq ?_
          refine T.seq ?_
          refine T.region ?_
          refine TL.move hF rfl rfl ?_
          refine TL.len hF rfl rfl ?_
          refine TL.bin hF rfl rfl rfl rfl ?_
          refine TL.nil ?_
          refine TQ.then_n ?_
          first | refine T.cond_d rfl (fun ht31 => ?_) (fun ht31 => ?_) | refine T.cond _ rfl (fun ht31 => ?_) (fun ht31 => ?_)
          · refine T.seq ?_
            refine T.region ?_
            refine TL.assign hF rfl rfl ?_
            refine TL.nil ?_
            refine TQ.then_n ?_
            refine T.ret ?_
            refine TQ.then_r ?_
            refine TQ.block_r ?_
            refine TQ.then_r ?_
            refine TQ.then_r ?_
            refine TQ.block_r ?_
            refine TQ.then_r ?_
            refine TQ.rets [4] _ rfl rfl rfl ?_
            exact ⟨by rw [hs, drop_step (by omega), errs]; simp [retVal, checkR, show 6 < (rs[k]'(by omega)).body.length by omega], rfl⟩
          · refine T.skip ?_
            refine TQ.then_n ?_
            refine T.seq ?_
            refine T.seq ?_
            refine T.region ?_
            refine TL.move hF rfl rfl ?_
            refine TL.move hF rfl rfl ?_
            refine TL.indexAddr hF rfl rfl (hr.ad (by omega)) (by omega) (by omega) rfl ?_
            refine TL.fieldAddr hF rfl rfl ?_
            refine TL.load hF rfl (hr.at (i := k) (by omega) 0 rfl) rfl ?_
            refine TL.move hF rfl rfl ?_
            refine TL.callV hF (in_fn _ _) rfl rfl ?_
            refine TL.not hF rfl rfl ?_
            refine TL.nil ?_
            refine TQ.then_n ?_
            refine T.cond _ rfl (fun ht39 => ?_) (fun ht39 => ?_)
            · refine T.seq ?_
              refine T.region ?_
              refine TL.assign hF rfl rfl ?_
              refine TL.nil ?_
              refine TQ.then_n ?_
              refine T.ret ?_
              refine TQ.then_r ?_
              refine TQ.block_r ?_
              refine TQ.then_r ?_
              refine TQ.then_r ?_
              refine TQ.block_r ?_
              refine TQ.then_r ?_
              refine TQ.rets [4] _ rfl rfl rfl ?_
              simp at ht39
              exact ⟨by rw [hs, drop_step (by omega), errs]; simp [retVal, checkR, show ¬ 6 < (rs[k]'(by omega)).body.length by omega, ht39], rfl⟩
            · refine T.skip ?_
              refine TQ.then_n ?_
              refine T.seq ?_
              refine T.region ?_
              refine TL.assign hF rfl rfl ?_
              refine TL.nil ?_
              refine TQ.then_n ?_
              refine T.block ?_
              refine T.loop (ι := Nat) (fun j => j ≤ (rs[k]'(by omega)).body.length ∧ atomsOk rels (rs[k]'(by omega)).body = atomsOk rels ((rs[k]'(by omega)).body.drop j)) (fun j => [(0, .int .i64 rels), (1, .slice a rs.length c), (5, .int .i64 (k : Int)), (6, .slice (rs[k]'(by omega)).ba (rs[k]'(by omega)).body.length (rs[k]'(by omega)).bc), (7, .int .i64 (j : Int))]) (fun _ => η) (fun j => (rs[k]'(by omega)).body.length - j) 0 ⟨Nat.zero_le _, by simp⟩ ⟨rfl, rfl, rfl, rfl, rfl, trivial⟩ rfl ?_
              rintro j ⟨hj, hjs⟩
              refine T.seq ?_
              refine T.seq ?_
              refine T.region ?_
              refine TL.move hF rfl rfl ?_
              refine TL.move hF rfl rfl ?_
              refine TL.len hF rfl rfl ?_
              refine TL.bin hF rfl rfl rfl rfl ?_
              refine TL.nil ?_
              refine TQ.then_n ?_
              first | refine T.cond_d rfl (fun ht43 => ?_) (fun ht43 => ?_) | refine T.cond _ rfl (fun ht43 => ?_) (fun ht43 => ?_)
              · refine T.skip ?_
                refine TQ.then_n ?_
                refine T.seq ?_
                refine T.block ?_
                refine T.seq ?_
                refine T.region ?_
                refine TL.move hF rfl rfl ?_
                refine TL.move hF rfl rfl ?_
                refine TL.indexAddr hF rfl rfl (hr.bad (i := k) (by omega) (by omega)) (by omega) (by omega) rfl ?_
                refine TL.fieldAddr hF rfl rfl ?_
                refine TL.load hF rfl (hr.bat (i := k) (by omega) (k := j) (by omega) 0 rfl) rfl ?_
                refine TL.move hF rfl rfl ?_
                refine TL.callV hF (in_fn _ _) rfl rfl ?_
                refine TL.not hF rfl rfl ?_
                refine TL.nil ?_
                refine TQ.then_n ?_
                refine T.cond _ rfl (fun ht53 => ?_) (fun ht53 => ?_)
                · refine T.seq ?_
                  refine T.region ?_
                  refine TL.assign hF rfl rfl ?_
                  refine TL.nil ?_
                  refine TQ.then_n ?_
                  refine T.ret ?_
                  refine TQ.block_r ?_
                  refine TQ.then_r ?_
                  refine TQ.then_r ?_
                  refine TQ.block_r ?_
                  refine TQ.block_r ?_
                  refine TQ.then_r ?_
                  refine TQ.then_r ?_
                  refine TQ.block_r ?_
                  refine TQ.then_r ?_
                  refine TQ.rets [4] _ rfl rfl rfl ?_
                  simp at ht39 ht53
                  have h1 : atomsOk rels (rs[k]'(by omega)).body = false := by rw [hjs, drop_step (by omega), atomsOk]; simp [ht53]
                  exact ⟨by rw [hs, drop_step (by omega), errs]; simp [retVal, checkR, show ¬ 6 < (rs[k]'(by omega)).body.length by omega, ht39, h1], rfl⟩
                · refine T.skip ?_
                  refine TQ.block_n ?_
                  refine TQ.then_n ?_
                  refine T.region ?_
                  refine TL.move hF rfl rfl ?_
                  refine TL.add hF rfl rfl (by omega) (by omega) rfl ?_
                  refine TL.assign hF rfl rfl ?_
                  refine TL.nil ?_
                  refine TQ.round (j + 1) ⟨by omega, by rw [hjs, drop_step (by omega), atomsOk]; simp at ht53; simp [ht53]⟩ (by omega) ⟨rfl, rfl, rfl, rfl, rfl, trivial⟩ rfl
              · refine T.exit ?_
                refine TQ.then_x ?_
                refine TQ.then_x ?_
                refine TQ.block_x ?_
                refine TQ.block_n ?_
                refine TQ.then_n ?_
                refine T.region ?_
                refine TL.move hF rfl rfl ?_
                refine TL.add hF rfl rfl (by omega) (by omega) rfl ?_
                refine TL.assign hF rfl rfl ?_
                refine TL.nil ?_
                refine TQ.round (k + 1) ⟨by omega, ?_⟩ (by omega) ⟨rfl, rfl, rfl, trivial⟩ rfl
                have h1 : atomsOk rels (rs[k]'(by omega)).body = true := by rw [hjs, List.drop_of_length_le (by omega)]; rfl
                simp at ht39
                have h2 : checkR rels (rs[k]'(by omega)) = 0 := by simp [checkR, ht39, h1]; omega
                rw [hs, drop_step (by omega), errs, if_pos h2]
        · refine T.exit ?_
          refine TQ.then_x ?_
          refine TQ.then_x ?_
          refine TQ.block_x ?_
          refine TQ.then_n ?_
          refine T.seq ?_
          refine T.region ?_
          refine TL.assign hF rfl rfl ?_
          refine TL.nil ?_
          refine TQ.then_n ?_
          refine T.ret ?_
          refine TQ.rets [4] _ rfl rfl rfl ?_
          exact ⟨by rw [hs, List.drop_of_length_le (by omega)]; rfl, rfl⟩
set_option maxHeartbeats 2000000 in
theorem Uses_fn {a : Option Addr} {rs : List RuleD} {c : Nat} (p q : Int) (dn : Bool) (hr : Rules S w0 [] a rs) (hl : rs.length < 2 ^ 63) (hb : ∀ r ∈ rs, r.body.length < 2 ^ 63) :
    Rt Try.prog 39 [.slice a rs.length c, .int .i64 p, .int .i64 q, .bool dn].toArray S w0 η (fun v η' => v = .bool (uses p q dn rs) ∧ η' = η) := by
  have hF := open_wide
  refine Rt.of (fn := Try.f39) Try.func39 rfl rfl ?_
  refine T.seq ?_
  refine T.region ?_
  refine TL.assign hF rfl rfl ?_
  refine TL.nil ?_
  refine TQ.then_n ?_
  refine T.seq ?_
  refine T.seq ?_
  refine T.region ?_
  refine TL.assign hF rfl rfl ?_
  refine TL.nil ?_
  refine TQ.then_n ?_
  refine T.block ?_
  refine T.loop (ι := Nat) (fun k => k ≤ rs.length ∧ uses p q dn rs = uses p q dn (rs.drop k)) (fun k => [(0, .slice a rs.length c), (1, .int .i64 p), (2, .int .i64 q), (3, .bool dn), (9, .int .i64 (k : Int))]) (fun _ => η) (fun k => rs.length - k) 0 ⟨Nat.zero_le _, by simp⟩ ⟨rfl, rfl, rfl, rfl, rfl, trivial⟩ rfl ?_
  rintro k ⟨hk, hs⟩
  refine T.seq ?_
  refine T.seq ?_
  refine T.region ?_
  refine TL.move hF rfl rfl ?_
  refine TL.move hF rfl rfl ?_
  refine TL.len hF rfl rfl ?_
  refine TL.bin hF rfl rfl rfl rfl ?_
  refine TL.nil ?_
  refine TQ.then_n ?_
  first | refine T.cond_d rfl (fun ht15 => ?_) (fun ht15 => ?_) | refine T.cond _ rfl (fun ht15 => ?_) (fun ht15 => ?_)
  · refine T.skip ?_
    refine TQ.then_n ?_
    refine T.seq ?_
    refine T.block ?_
    refine T.seq ?_
    refine T.region ?_
    refine TL.assign hF rfl rfl ?_
    refine TL.nil ?_
    refine TQ.then_n ?_
    refine T.block ?_
    have hbk := hb (rs[k]'(by omega)) (List.getElem_mem _)
    refine T.loop (ι := Nat) (fun j => j ≤ (rs[k]'(by omega)).body.length ∧ (decide ((rs[k]'(by omega)).head = p) && usesA q dn (rs[k]'(by omega)).body) = (decide ((rs[k]'(by omega)).head = p) && usesA q dn ((rs[k]'(by omega)).body.drop j))) (fun j => [(0, .slice a rs.length c), (1, .int .i64 p), (2, .int .i64 q), (3, .bool dn), (9, .int .i64 (k : Int)), (10, .int .i64 (j : Int))]) (fun _ => η) (fun j => (rs[k]'(by omega)).body.length - j) 0 ⟨Nat.zero_le _, by simp⟩ ⟨rfl, rfl, rfl, rfl, rfl, rfl, trivial⟩ rfl ?_
    rintro j ⟨hj, hjs⟩
    refine T.seq ?_
    refine T.seq ?_
    refine T.region ?_
    refine TL.move hF rfl rfl ?_
    refine TL.move hF rfl rfl ?_
    refine TL.move hF rfl rfl ?_
    refine TL.indexAddr hF rfl rfl (hr.ro.ad (η := η) (by omega)) (by omega) (by omega) rfl ?_
    refine TL.fieldAddr hF rfl rfl ?_
    refine TL.fieldAddr hF rfl rfl ?_
    refine TL.load hF rfl (hr.ro.at (i := k) (by omega) 2 rfl) rfl ?_
    refine TL.len hF rfl rfl ?_
    refine TL.bin hF rfl rfl rfl rfl ?_
    refine TL.nil ?_
    refine TQ.then_n ?_
    first | refine T.cond_d rfl (fun ht26 => ?_) (fun ht26 => ?_) | refine T.cond _ rfl (fun ht26 => ?_) (fun ht26 => ?_)
    · refine T.skip ?_
      refine TQ.then_n ?_
      refine T.seq ?_
      refine T.block ?_
      refine T.seq ?_
      refine T.region ?_
      refine TL.move hF rfl rfl ?_
      refine TL.move hF rfl rfl ?_
      refine TL.indexAddr hF rfl rfl (hr.ro.ad (η := η) (by omega)) (by omega) (by omega) rfl ?_
      refine TL.fieldAddr hF rfl rfl ?_
      refine TL.fieldAddr hF rfl rfl ?_
      refine TL.load hF rfl (hr.ro.at (i := k) (by omega) 2 rfl) rfl ?_
      refine TL.move hF rfl rfl ?_
      refine TL.indexAddr hF rfl rfl (hr.ro.bad (η := η) (i := k) (by omega) (by omega)) (by omega) (by omega) rfl ?_
      refine TL.loadA hF (rs[k]'(by omega)).body[j].cells rfl rfl (hr.ro.batA (i := k) (by omega) (k := j) (by omega)) rfl ?_
      refine TL.alloc hF rfl (fun b11 => ?_)
      refine TL.storeAI hF (rs[k]'(by omega)).body[j].cells 0 rfl rfl rfl rfl (by simp [AtomD.cells, Value.oneCell']) (by simp [Value.cells, acells_len]) ?_
      refine TL.nil ?_
      refine TQ.then_n ?_
      refine T.seq ?_
      refine T.region ?_
      refine TL.move hF rfl rfl ?_
      refine TL.move hF rfl rfl ?_
      refine TL.indexAddr hF rfl rfl (hr.ro.ad (η := η) (by omega)) (by omega) (by omega) rfl ?_
      refine TL.fieldAddr hF rfl rfl ?_
      refine TL.load hF rfl (hr.ro.at (i := k) (by omega) 0 rfl) rfl ?_
      refine TL.move hF rfl rfl ?_
      refine TL.bin hF rfl rfl rfl rfl ?_
      refine TL.move hF rfl rfl ?_
      refine TL.gd (t := 45) rfl (fun g8_45 => ?_) (fun g8_45 => ?_)
      · refine TL.on rfl rfl rfl (decide_eq_true g8_45) ?_
        refine TL.fieldAddr hF rfl rfl ?_
        refine TL.on rfl rfl rfl (decide_eq_true g8_45) ?_
        refine TL.load hF rfl (by first | exact At.own' (i := 0) rfl rfl | exact At.own' (i := 1) rfl rfl | exact At.own' (i := 2) rfl rfl | exact At.own' (i := 3) rfl rfl | exact At.own' (i := 4) rfl rfl) rfl ?_
        refine TL.on rfl rfl rfl (decide_eq_true g8_45) ?_
        refine TL.move hF rfl rfl ?_
        refine TL.on rfl rfl rfl (decide_eq_true g8_45) ?_
        refine TL.bin hF rfl rfl rfl rfl ?_
        refine TL.pickT hF rfl (decide_eq_true g8_45) rfl rfl ?_
        refine TL.move hF rfl rfl ?_
        refine TL.gd (t := 51) rfl (fun g8_51 => ?_) (fun g8_51 => ?_)
        · refine TL.on rfl rfl rfl (decide_eq_true g8_51) ?_
          refine TL.fieldAddr hF rfl rfl ?_
          refine TL.on rfl rfl rfl (decide_eq_true g8_51) ?_
          refine TL.load hF rfl (by first | exact At.own' (i := 0) rfl rfl | exact At.own' (i := 1) rfl rfl | exact At.own' (i := 2) rfl rfl | exact At.own' (i := 3) rfl rfl | exact At.own' (i := 4) rfl rfl) rfl ?_
          refine TL.on rfl rfl rfl (decide_eq_true g8_51) ?_
          refine TL.move hF rfl rfl ?_
          refine TL.gb (t := 54) rfl (fun g8_54 => ?_) (fun g8_54 => ?_)
          · refine TL.off hF rfl rfl rfl g8_54 rfl ?_
            refine TL.off hF rfl rfl rfl g8_54 rfl ?_
            refine TL.on rfl rfl rfl (decide_eq_true g8_51) ?_
            refine TL.pickT hF rfl g8_54 rfl rfl ?_
            refine TL.pickT hF rfl (decide_eq_true g8_51) rfl rfl ?_
            refine TL.nil ?_
            refine TQ.then_n ?_
            refine T.cond_t rfl rfl ?_
            refine T.seq ?_
            refine T.region ?_
            refine TL.assign hF rfl rfl ?_
            refine TL.nil ?_
            refine TQ.then_n ?_
            refine T.ret ?_
            refine TQ.block_r ?_
            refine TQ.then_r ?_
            refine TQ.then_r ?_
            refine TQ.block_r ?_
            refine TQ.block_r ?_
            refine TQ.then_r ?_
            refine TQ.then_r ?_
            refine TQ.block_r ?_
            refine TQ.then_r ?_
            refine TQ.pop ?_
            refine TQ.rets [8] _ rfl rfl rfl ?_
            have h1 : (decide ((rs[k]'(by omega)).head = p) && usesA q dn (rs[k]'(by omega)).body) = true := by rw [hjs, drop_step (by omega), usesA]; simp_all [hit]
            exact ⟨by rw [hs, drop_step (by omega), uses]; simp [h1, retVal], rfl⟩
          · refine TL.on rfl rfl rfl g8_54 ?_
            refine TL.move hF rfl rfl ?_
            refine TL.on rfl rfl rfl g8_54 ?_
            refine TL.not hF rfl rfl ?_
            refine TL.on rfl rfl rfl (decide_eq_true g8_51) ?_
            refine TL.pickF hF rfl g8_54 rfl rfl ?_
            refine TL.pickT hF rfl (decide_eq_true g8_51) rfl rfl ?_
            refine TL.nil ?_
            refine TQ.then_n ?_
            refine T.cond _ rfl (fun ht58 => ?_) (fun ht58 => ?_)
            · refine T.seq ?_
              refine T.region ?_
              refine TL.assign hF rfl rfl ?_
              refine TL.nil ?_
              refine TQ.then_n ?_
              refine T.ret ?_
              refine TQ.block_r ?_
              refine TQ.then_r ?_
              refine TQ.then_r ?_
              refine TQ.block_r ?_
              refine TQ.block_r ?_
              refine TQ.then_r ?_
              refine TQ.then_r ?_
              refine TQ.block_r ?_
              refine TQ.then_r ?_
              refine TQ.pop ?_
              refine TQ.rets [8] _ rfl rfl rfl ?_
              have h1 : (decide ((rs[k]'(by omega)).head = p) && usesA q dn (rs[k]'(by omega)).body) = true := by rw [hjs, drop_step (by omega), usesA]; simp_all [hit]
              exact ⟨by rw [hs, drop_step (by omega), uses]; simp [h1, retVal], rfl⟩
            · refine T.skip ?_
              refine TQ.block_n ?_
              refine TQ.then_n ?_
              refine T.region ?_
              refine TL.move hF rfl rfl ?_
              refine TL.add hF rfl rfl (by omega) (by omega) rfl ?_
              refine TL.assign hF rfl rfl ?_
              refine TL.nil ?_
              refine TQ.pop ?_
              refine TQ.round (j + 1) ⟨by omega, by rw [hjs, drop_step (by omega), usesA]; simp_all [hit]⟩ (by omega) ⟨rfl, rfl, rfl, rfl, rfl, rfl, trivial⟩ rfl
        · refine TL.off hF rfl rfl rfl (decide_eq_false g8_51) rfl ?_
          refine TL.off hF rfl rfl rfl (decide_eq_false g8_51) rfl ?_
          refine TL.off hF rfl rfl rfl (decide_eq_false g8_51) rfl ?_
          refine TL.offU hF rfl rfl rfl rfl ?_
          refine TL.offU hF rfl rfl rfl rfl ?_
          refine TL.off hF rfl rfl rfl (decide_eq_false g8_51) rfl ?_
          refine TL.pickF hF rfl (decide_eq_false g8_51) rfl rfl ?_
          refine TL.nil ?_
          refine TQ.then_n ?_
          refine T.cond_f rfl rfl ?_
          refine T.skip ?_
          refine TQ.block_n ?_
          refine TQ.then_n ?_
          refine T.region ?_
          refine TL.move hF rfl rfl ?_
          refine TL.add hF rfl rfl (by omega) (by omega) rfl ?_
          refine TL.assign hF rfl rfl ?_
          refine TL.nil ?_
          refine TQ.pop ?_
          refine TQ.round (j + 1) ⟨by omega, by rw [hjs, drop_step (by omega), usesA]; simp_all [hit]⟩ (by omega) ⟨rfl, rfl, rfl, rfl, rfl, rfl, trivial⟩ rfl
      · refine TL.off hF rfl rfl rfl (decide_eq_false g8_45) rfl ?_
        refine TL.off hF rfl rfl rfl (decide_eq_false g8_45) rfl ?_
        refine TL.off hF rfl rfl rfl (decide_eq_false g8_45) rfl ?_
        refine TL.off hF rfl rfl rfl (decide_eq_false g8_45) rfl ?_
        refine TL.pickF hF rfl (decide_eq_false g8_45) rfl rfl ?_
        refine TL.move hF rfl rfl ?_
        refine TL.off hF rfl rfl rfl rfl rfl ?_
        refine TL.off hF rfl rfl rfl rfl rfl ?_
        refine TL.off hF rfl rfl rfl rfl rfl ?_
        refine TL.offU hF rfl rfl rfl rfl ?_
        refine TL.offU hF rfl rfl rfl rfl ?_
        refine TL.off hF rfl rfl rfl rfl rfl ?_
        refine TL.pickF hF rfl rfl rfl rfl ?_
        refine TL.nil ?_
        refine TQ.then_n ?_
        refine T.cond_f rfl rfl ?_
        refine T.skip ?_
        refine TQ.block_n ?_
        refine TQ.then_n ?_
        refine T.region ?_
        refine TL.move hF rfl rfl ?_
        refine TL.add hF rfl rfl (by omega) (by omega) rfl ?_
        refine TL.assign hF rfl rfl ?_
        refine TL.nil ?_
        refine TQ.pop ?_
        refine TQ.round (j + 1) ⟨by omega, by rw [hjs, drop_step (by omega), usesA]; simp_all [hit]⟩ (by omega) ⟨rfl, rfl, rfl, rfl, rfl, rfl, trivial⟩ rfl
    · refine T.exit ?_
      refine TQ.then_x ?_
      refine TQ.then_x ?_
      refine TQ.block_x ?_
      refine TQ.block_n ?_
      refine TQ.then_n ?_
      refine T.region ?_
      refine TL.move hF rfl rfl ?_
      refine TL.add hF rfl rfl (by omega) (by omega) rfl ?_
      refine TL.assign hF rfl rfl ?_
      refine TL.nil ?_
      refine TQ.round (k + 1) ⟨by omega, ?_⟩ (by omega) ⟨rfl, rfl, rfl, rfl, rfl, trivial⟩ rfl
      have h1 : (decide ((rs[k]'(by omega)).head = p) && usesA q dn (rs[k]'(by omega)).body) = false := by rw [hjs, List.drop_of_length_le (by omega)]; simp [usesA]
      rw [hs, drop_step (by omega), uses, h1, Bool.false_or]
  · refine T.exit ?_
    refine TQ.then_x ?_
    refine TQ.then_x ?_
    refine TQ.block_x ?_
    refine TQ.then_n ?_
    refine T.seq ?_
    refine T.region ?_
    refine TL.assign hF rfl rfl ?_
    refine TL.nil ?_
    refine TQ.then_n ?_
    refine T.ret ?_
    refine TQ.rets [8] _ rfl rfl rfl ?_
    exact ⟨by rw [hs, List.drop_of_length_le (by omega)]; rfl, rfl⟩
end Go.Proofs.Ytdehpaikapbckaa
