/- Sums of changes, and changes of sums: for every input. No condition. -/
import Derived.Test.YteimjjpigohnhaaGreatSd
import Derived.Test.YteimjjpigohnhaaGreatSf
import Derived.Test.YteimjjpigohnhaaGreatSe
import Derived.Test.YteimjjpigohnhaaGreatRows
/- The reference's functions. -/
namespace Go.Proofs.YteimjjpigohnhaaGreat
open Go.Sl
variable {S : Nat → Prop} {w0 : World} {η : Heap}
theorem timesE_2 (a b : Tm) : timesE [a, b] = if fitT [a, b] then 0 else 1 := by unfold timesE; rw [if_neg (by simp)]
theorem front_ok {f g m : List Tm} (h : frontE f g m = 0) : f.length ≤ 200 ∧ g.length ≤ 200 ∧ m.length ≤ 200 ∧ fitT (f ++ g ++ m) = true ∧ f = firstsT f ∧ g = firstsT g := by
 unfold frontE at h
 by_cases h1 : 200 < f.length ∨ 200 < g.length ∨ 200 < m.length
 ·rw [if_pos h1] at h; cases h
 ·rw [if_neg h1] at h
  by_cases h2 : fitT (f ++ g ++ m) = true
  ·rw [if_pos h2] at h
   by_cases h3 : f = firstsT f ∧ g = firstsT g
   ·exact ⟨by omega, by omega, by omega, h2, h3.1, h3.2⟩
   ·rw [if_neg h3] at h; cases h
  ·rw [if_neg h2] at h; cases h
set_option maxHeartbeats 2000000 in
theorem Less_ref {a b : Option Addr} {xs ys : List Int} {c d : Nat} (hx : Row S w0 [] a (ints xs)) (hy : Row S w0 [] b (ints ys)) (hl : xs.length < 2 ^ 63) (hl2 : ys.length < 2 ^ 63) :
  Rt Tryz.prog 36 [.slice a xs.length c, .slice b ys.length d].toArray S w0 η (ResB (lessS xs ys) η) := by
 have hF := open_wide
 refine Rt.of (fn := Tryz.f36) Tryz.func36 rfl rfl ?_
 refine T.seq ?_
 refine T.region ?_
 refine TL.assign hF rfl rfl ?_
 refine TL.assign hF rfl rfl ?_
 refine TL.nil ?_
 refine TQ.then_n ?_
 refine T.seq ?_
 refine T.seq ?_
 refine T.region ?_
 refine TL.move hF rfl rfl ?_
 refine TL.move hF rfl rfl ?_
 refine TL.buildSlice hF rfl (cs := #[hc (a, xs, c), hc (b, ys, d)]) (e := 22) (fun w => by kernel_rfl) rfl (fun b9 => ?_)
 have hll : LL S w0 ([(b9, Obj.cells #[hc (a, xs, c), hc (b, ys, d)] 22 (0, 0))] :: η) (some ⟨b9, 0, none⟩) [(a, xs, c), (b, ys, d)] := LL.two hx.ro hy.ro (row_own (cs := [hc (a, xs, c), hc (b, ys, d)]) (e := 22) (by simp))
 refine TL.callV hF (Times_fn hll (by simp) (fun p hp => by simp only [List.mem_cons, List.not_mem_nil, or_false] at hp; rcases hp with rfl | rfl; exact hl; exact hl2)) rfl rfl ?_
 have hE : timesE (tx [(a, xs, c), (b, ys, d)]) = if fitT [xs, ys] then 0 else 1 := timesE_2 xs ys
 refine TL.assign hF rfl rfl ?_
 refine TL.nil ?_
 refine TQ.then_n ?_
 refine T.seq ?_
 refine T.region ?_
 refine TL.move hF rfl rfl ?_
 refine TL.bin hF rfl rfl rfl rfl ?_
 refine TL.nil ?_
 refine TQ.then_n ?_
 first | refine T.cond_d rfl (fun ht12 => ?_) (fun ht12 => ?_) | refine T.cond _ rfl (fun ht12 => ?_) (fun ht12 => ?_)
 ·refine T.seq ?_
  refine T.region ?_
  refine TL.move hF rfl rfl ?_
  refine TL.assign hF rfl rfl ?_
  refine TL.assign hF rfl rfl ?_
  refine TL.nil ?_
  refine TQ.then_n ?_
  refine T.ret ?_
  refine TQ.then_r ?_
  refine TQ.rets [4, 5] _ rfl rfl rfl ?_
  have hB : fitT [xs, ys] = false := by
   cases h : fitT [xs, ys] with
   | false => rfl
   | true => rw [if_pos h] at hE; exact absurd hE ht12
  have e : lessS xs ys = (false, 1) := by unfold lessS; rw [if_neg (by rw [hB]; simp)]
  rw [e, show timesE (tx [(a, xs, c), (b, ys, d)]) = 1 from by rw [hE, hB]; rfl]
  exact ⟨rfl, [_], rfl⟩
 ·refine T.skip ?_
  refine TQ.then_n ?_
  refine T.seq ?_
  refine T.region ?_
  refine TL.move hF rfl rfl ?_
  refine TL.move hF rfl rfl ?_
  have hB : fitT [xs, ys] = true := by
   by_cases h : fitT [xs, ys] = true
   ·exact h
   ·rw [if_neg h] at hE; rw [hE] at ht12; exact absurd (by decide) ht12
  have h2 := fit2 hB
  refine TL.callV hF (AtOrBefore_fn hx.ro hy.ro h2.1 (by omega)) rfl rfl ?_
  refine TL.assign hF rfl rfl ?_
  refine TL.assign hF rfl rfl ?_
  refine TL.nil ?_
  refine TQ.then_n ?_
  refine T.ret ?_
  refine TQ.rets [4, 5] _ rfl rfl rfl ?_
  have e : lessS xs ys = (tle xs ys, 0) := by unfold lessS; rw [if_pos hB]
  rw [e]
  exact ⟨rfl, [_], rfl⟩
set_option maxHeartbeats 2000000 in
theorem Meet_ref {a b : Option Addr} {xs ys : List Int} {c d : Nat} (hx : Row S w0 [] a (ints xs)) (hy : Row S w0 [] b (ints ys)) (hl : xs.length < 2 ^ 63) (hl2 : ys.length < 2 ^ 63) :
  Rt Tryz.prog 37 [.slice a xs.length c, .slice b ys.length d].toArray S w0 η (ResT S w0 (meetS xs ys) η) := by
 have hF := open_wide
 refine Rt.of (fn := Tryz.f37) Tryz.func37 rfl rfl ?_
 refine T.seq ?_
 refine T.region ?_
 refine TL.assign hF rfl rfl ?_
 refine TL.assign hF rfl rfl ?_
 refine TL.nil ?_
 refine TQ.then_n ?_
 refine T.seq ?_
 refine T.seq ?_
 refine T.region ?_
 refine TL.move hF rfl rfl ?_
 refine TL.move hF rfl rfl ?_
 refine TL.buildSlice hF rfl (cs := #[hc (a, xs, c), hc (b, ys, d)]) (e := 22) (fun w => by kernel_rfl) rfl (fun b9 => ?_)
 have hll : LL S w0 ([(b9, Obj.cells #[hc (a, xs, c), hc (b, ys, d)] 22 (0, 0))] :: η) (some ⟨b9, 0, none⟩) [(a, xs, c), (b, ys, d)] := LL.two hx.ro hy.ro (row_own (cs := [hc (a, xs, c), hc (b, ys, d)]) (e := 22) (by simp))
 refine TL.callV hF (Times_fn hll (by simp) (fun p hp => by simp only [List.mem_cons, List.not_mem_nil, or_false] at hp; rcases hp with rfl | rfl; exact hl; exact hl2)) rfl rfl ?_
 have hE : timesE (tx [(a, xs, c), (b, ys, d)]) = if fitT [xs, ys] then 0 else 1 := timesE_2 xs ys
 refine TL.assign hF rfl rfl ?_
 refine TL.nil ?_
 refine TQ.then_n ?_
 refine T.seq ?_
 refine T.region ?_
 refine TL.move hF rfl rfl ?_
 refine TL.bin hF rfl rfl rfl rfl ?_
 refine TL.nil ?_
 refine TQ.then_n ?_
 first | refine T.cond_d rfl (fun ht12 => ?_) (fun ht12 => ?_) | refine T.cond _ rfl (fun ht12 => ?_) (fun ht12 => ?_)
 ·refine T.seq ?_
  refine T.region ?_
  refine TL.move hF rfl rfl ?_
  refine TL.assign hF rfl rfl ?_
  refine TL.assign hF rfl rfl ?_
  refine TL.nil ?_
  refine TQ.then_n ?_
  refine T.ret ?_
  refine TQ.then_r ?_
  refine TQ.rets [4, 5] _ rfl rfl rfl ?_
  have hB : fitT [xs, ys] = false := by
   cases h : fitT [xs, ys] with
   | false => rfl
   | true => rw [if_pos h] at hE; exact absurd hE ht12
  have e : meetS xs ys = ([], 1) := by unfold meetS; rw [if_neg (by rw [hB]; simp)]
  rw [e, show timesE (tx [(a, xs, c), (b, ys, d)]) = 1 from by rw [hE, hB]; rfl]
  exact ⟨none, 0, [_], rfl, Row.none, rfl⟩
 ·refine T.skip ?_
  refine TQ.then_n ?_
  refine T.seq ?_
  refine T.region ?_
  refine TL.move hF rfl rfl ?_
  refine TL.move hF rfl rfl ?_
  have hB : fitT [xs, ys] = true := by
   by_cases h : fitT [xs, ys] = true
   ·exact h
   ·rw [if_neg h] at hE; rw [hE] at ht12; exact absurd (by decide) ht12
  have h2 := fit2 hB
  refine TL.call hF (Lower_fn hx.ro hy.ro h2.1 (by omega)) rfl rfl ?_
  rintro _ _ ⟨a1, c1, s1, rfl, ho1, rfl⟩
  refine TL.assign hF rfl rfl ?_
  refine TL.assign hF rfl rfl ?_
  refine TL.nil ?_
  refine TQ.then_n ?_
  refine T.ret ?_
  refine TQ.rets [4, 5] _ rfl rfl rfl ?_
  have e : meetS xs ys = (tmeet xs ys, 0) := by unfold meetS; rw [if_pos hB]
  rw [e]
  have e2 : (tmeet xs ys).length = xs.length := tmeet_len h2.1
  refine ⟨a1, c1, [_, _], by dsimp only; rw [e2]; rfl, ho1.row List.mem_cons_self, rfl⟩
set_option maxHeartbeats 2000000 in
theorem Join_ref {a b : Option Addr} {xs ys : List Int} {c d : Nat} (hx : Row S w0 [] a (ints xs)) (hy : Row S w0 [] b (ints ys)) (hl : xs.length < 2 ^ 63) (hl2 : ys.length < 2 ^ 63) :
  Rt Tryz.prog 38 [.slice a xs.length c, .slice b ys.length d].toArray S w0 η (ResT S w0 (joinS xs ys) η) := by
 have hF := open_wide
 refine Rt.of (fn := Tryz.f38) Tryz.func38 rfl rfl ?_
 refine T.seq ?_
 refine T.region ?_
 refine TL.assign hF rfl rfl ?_
 refine TL.assign hF rfl rfl ?_
 refine TL.nil ?_
 refine TQ.then_n ?_
 refine T.seq ?_
 refine T.seq ?_
 refine T.region ?_
 refine TL.move hF rfl rfl ?_
 refine TL.move hF rfl rfl ?_
 refine TL.buildSlice hF rfl (cs := #[hc (a, xs, c), hc (b, ys, d)]) (e := 22) (fun w => by kernel_rfl) rfl (fun b9 => ?_)
 have hll : LL S w0 ([(b9, Obj.cells #[hc (a, xs, c), hc (b, ys, d)] 22 (0, 0))] :: η) (some ⟨b9, 0, none⟩) [(a, xs, c), (b, ys, d)] := LL.two hx.ro hy.ro (row_own (cs := [hc (a, xs, c), hc (b, ys, d)]) (e := 22) (by simp))
 refine TL.callV hF (Times_fn hll (by simp) (fun p hp => by simp only [List.mem_cons, List.not_mem_nil, or_false] at hp; rcases hp with rfl | rfl; exact hl; exact hl2)) rfl rfl ?_
 have hE : timesE (tx [(a, xs, c), (b, ys, d)]) = if fitT [xs, ys] then 0 else 1 := timesE_2 xs ys
 refine TL.assign hF rfl rfl ?_
 refine TL.nil ?_
 refine TQ.then_n ?_
 refine T.seq ?_
 refine T.region ?_
 refine TL.move hF rfl rfl ?_
 refine TL.bin hF rfl rfl rfl rfl ?_
 refine TL.nil ?_
 refine TQ.then_n ?_
 first | refine T.cond_d rfl (fun ht12 => ?_) (fun ht12 => ?_) | refine T.cond _ rfl (fun ht12 => ?_) (fun ht12 => ?_)
 ·refine T.seq ?_
  refine T.region ?_
  refine TL.move hF rfl rfl ?_
  refine TL.assign hF rfl rfl ?_
  refine TL.assign hF rfl rfl ?_
  refine TL.nil ?_
  refine TQ.then_n ?_
  refine T.ret ?_
  refine TQ.then_r ?_
  refine TQ.rets [4, 5] _ rfl rfl rfl ?_
  have hB : fitT [xs, ys] = false := by
   cases h : fitT [xs, ys] with
   | false => rfl
   | true => rw [if_pos h] at hE; exact absurd hE ht12
  have e : joinS xs ys = ([], 1) := by unfold joinS; rw [if_neg (by rw [hB]; simp)]
  rw [e, show timesE (tx [(a, xs, c), (b, ys, d)]) = 1 from by rw [hE, hB]; rfl]
  exact ⟨none, 0, [_], rfl, Row.none, rfl⟩
 ·refine T.skip ?_
  refine TQ.then_n ?_
  refine T.seq ?_
  refine T.region ?_
  refine TL.move hF rfl rfl ?_
  refine TL.move hF rfl rfl ?_
  have hB : fitT [xs, ys] = true := by
   by_cases h : fitT [xs, ys] = true
   ·exact h
   ·rw [if_neg h] at hE; rw [hE] at ht12; exact absurd (by decide) ht12
  have h2 := fit2 hB
  refine TL.call hF (Upper_fn hx.ro hy.ro h2.1 (by omega)) rfl rfl ?_
  rintro _ _ ⟨a1, c1, s1, rfl, ho1, rfl⟩
  refine TL.assign hF rfl rfl ?_
  refine TL.assign hF rfl rfl ?_
  refine TL.nil ?_
  refine TQ.then_n ?_
  refine T.ret ?_
  refine TQ.rets [4, 5] _ rfl rfl rfl ?_
  have e : joinS xs ys = (tjoin xs ys, 0) := by unfold joinS; rw [if_pos hB]
  rw [e]
  have e2 : (tjoin xs ys).length = xs.length := tjoin_len h2.1
  refine ⟨a1, c1, [_, _], by dsimp only; rw [e2]; rfl, ho1.row List.mem_cons_self, rfl⟩
set_option maxHeartbeats 2000000 in
theorem Sort_ref {a : Option Addr} {ps : List HL} {c : Nat} (hx : LL S w0 [] a ps) (hl : ps.length < 2 ^ 63) (hlx : ∀ p ∈ ps, p.2.1.length < 2 ^ 63) :
  Rt Tryz.prog 39 [.slice a ps.length c].toArray S w0 η (ResL S w0 (sortS (tx ps)) η) := by
 have hF := open_wide
 refine Rt.of (fn := Tryz.f39) Tryz.func39 rfl rfl ?_
 refine T.seq ?_
 refine T.region ?_
 refine TL.assign hF rfl rfl ?_
 refine TL.assign hF rfl rfl ?_
 refine TL.nil ?_
 refine TQ.then_n ?_
 refine T.seq ?_
 refine T.seq ?_
 refine T.region ?_
 refine TL.move hF rfl rfl ?_
 refine TL.callV hF (Times_fn hx.ro hl hlx) rfl rfl ?_
 refine TL.assign hF rfl rfl ?_
 refine TL.nil ?_
 refine TQ.then_n ?_
 refine T.seq ?_
 refine T.region ?_
 refine TL.move hF rfl rfl ?_
 refine TL.bin hF rfl rfl rfl rfl ?_
 refine TL.nil ?_
 refine TQ.then_n ?_
 first | refine T.cond_d rfl (fun ht8 => ?_) (fun ht8 => ?_) | refine T.cond _ rfl (fun ht8 => ?_) (fun ht8 => ?_)
 ·refine T.seq ?_
  refine T.region ?_
  refine TL.move hF rfl rfl ?_
  refine TL.assign hF rfl rfl ?_
  refine TL.assign hF rfl rfl ?_
  refine TL.nil ?_
  refine TQ.then_n ?_
  refine T.ret ?_
  refine TQ.then_r ?_
  refine TQ.rets [2, 3] _ rfl rfl rfl ?_
  have e : sortS (tx ps) = ([], timesE (tx ps)) := by unfold sortS; rw [if_neg ht8]
  rw [e]
  exact ⟨none, 0, [], [], rfl, rfl, LL.none, rfl⟩
 ·refine T.skip ?_
  refine TQ.then_n ?_
  refine T.seq ?_
  refine T.region ?_
  refine TL.move hF rfl rfl ?_
  have hB : timesE (tx ps) = 0 := Classical.not_not.1 ht8
  obtain ⟨hl2, hfit⟩ := times_ok hB
  rw [tx_len] at hl2
  obtain ⟨w, hw4, hwid⟩ := fit_wid hfit
  refine TL.call hF (Sorted_fn hx.ro (by omega) (fun p hp => by rw [wid_tx hwid p hp]; omega) (wid_tx hwid)) rfl rfl ?_
  rintro _ _ ⟨a2, c2, qs, segs, rfl, htq, rfl, hll, _⟩
  refine TL.assign hF rfl rfl ?_
  refine TL.assign hF rfl rfl ?_
  refine TL.nil ?_
  refine TQ.then_n ?_
  refine T.ret ?_
  refine TQ.rets [2, 3] _ rfl rfl rfl ?_
  have e : sortS (tx ps) = (sortT (tx ps), 0) := by unfold sortS; rw [if_pos hB]
  rw [e]
  exact ⟨a2, c2, qs, segs, rfl, htq, hll, rfl⟩
set_option maxHeartbeats 2000000 in
theorem Firsts_ref {a : Option Addr} {ps : List HL} {c : Nat} (hx : LL S w0 [] a ps) (hl : ps.length < 2 ^ 63) (hlx : ∀ p ∈ ps, p.2.1.length < 2 ^ 63) :
  Rt Tryz.prog 40 [.slice a ps.length c].toArray S w0 η (ResL S w0 (firstsS (tx ps)) η) := by
 have hF := open_wide
 refine Rt.of (fn := Tryz.f40) Tryz.func40 rfl rfl ?_
 refine T.seq ?_
 refine T.region ?_
 refine TL.assign hF rfl rfl ?_
 refine TL.assign hF rfl rfl ?_
 refine TL.nil ?_
 refine TQ.then_n ?_
 refine T.seq ?_
 refine T.seq ?_
 refine T.region ?_
 refine TL.move hF rfl rfl ?_
 refine TL.callV hF (Times_fn hx.ro hl hlx) rfl rfl ?_
 refine TL.assign hF rfl rfl ?_
 refine TL.nil ?_
 refine TQ.then_n ?_
 refine T.seq ?_
 refine T.region ?_
 refine TL.move hF rfl rfl ?_
 refine TL.bin hF rfl rfl rfl rfl ?_
 refine TL.nil ?_
 refine TQ.then_n ?_
 first | refine T.cond_d rfl (fun ht8 => ?_) (fun ht8 => ?_) | refine T.cond _ rfl (fun ht8 => ?_) (fun ht8 => ?_)
 ·refine T.seq ?_
  refine T.region ?_
  refine TL.move hF rfl rfl ?_
  refine TL.assign hF rfl rfl ?_
  refine TL.assign hF rfl rfl ?_
  refine TL.nil ?_
  refine TQ.then_n ?_
  refine T.ret ?_
  refine TQ.then_r ?_
  refine TQ.rets [2, 3] _ rfl rfl rfl ?_
  have e : firstsS (tx ps) = ([], timesE (tx ps)) := by unfold firstsS; rw [if_neg ht8]
  rw [e]
  exact ⟨none, 0, [], [], rfl, rfl, LL.none, rfl⟩
 ·refine T.skip ?_
  refine TQ.then_n ?_
  refine T.seq ?_
  refine T.region ?_
  refine TL.move hF rfl rfl ?_
  have hB : timesE (tx ps) = 0 := Classical.not_not.1 ht8
  obtain ⟨hl2, hfit⟩ := times_ok hB
  rw [tx_len] at hl2
  obtain ⟨w, hw4, hwid⟩ := fit_wid hfit
  refine TL.call hF (Earliest_fn hx.ro (by omega) (fun p hp => by rw [wid_tx hwid p hp]; omega) (wid_tx hwid)) rfl rfl ?_
  rintro _ _ ⟨a2, c2, qs, segs, rfl, htq, rfl, hll, _⟩
  refine TL.assign hF rfl rfl ?_
  refine TL.assign hF rfl rfl ?_
  refine TL.nil ?_
  refine TQ.then_n ?_
  refine T.ret ?_
  refine TQ.rets [2, 3] _ rfl rfl rfl ?_
  have e : firstsS (tx ps) = (firstsT (tx ps), 0) := by unfold firstsS; rw [if_pos hB]
  rw [e]
  exact ⟨a2, c2, qs, segs, rfl, htq, hll, rfl⟩
set_option maxHeartbeats 2000000 in
theorem Lasts_ref {a : Option Addr} {ps : List HL} {c : Nat} (hx : LL S w0 [] a ps) (hl : ps.length < 2 ^ 63) (hlx : ∀ p ∈ ps, p.2.1.length < 2 ^ 63) :
  Rt Tryz.prog 41 [.slice a ps.length c].toArray S w0 η (ResL S w0 (lastsS (tx ps)) η) := by
 have hF := open_wide
 refine Rt.of (fn := Tryz.f41) Tryz.func41 rfl rfl ?_
 refine T.seq ?_
 refine T.region ?_
 refine TL.assign hF rfl rfl ?_
 refine TL.assign hF rfl rfl ?_
 refine TL.nil ?_
 refine TQ.then_n ?_
 refine T.seq ?_
 refine T.seq ?_
 refine T.region ?_
 refine TL.move hF rfl rfl ?_
 refine TL.callV hF (Times_fn hx.ro hl hlx) rfl rfl ?_
 refine TL.assign hF rfl rfl ?_
 refine TL.nil ?_
 refine TQ.then_n ?_
 refine T.seq ?_
 refine T.region ?_
 refine TL.move hF rfl rfl ?_
 refine TL.bin hF rfl rfl rfl rfl ?_
 refine TL.nil ?_
 refine TQ.then_n ?_
 first | refine T.cond_d rfl (fun ht8 => ?_) (fun ht8 => ?_) | refine T.cond _ rfl (fun ht8 => ?_) (fun ht8 => ?_)
 ·refine T.seq ?_
  refine T.region ?_
  refine TL.move hF rfl rfl ?_
  refine TL.assign hF rfl rfl ?_
  refine TL.assign hF rfl rfl ?_
  refine TL.nil ?_
  refine TQ.then_n ?_
  refine T.ret ?_
  refine TQ.then_r ?_
  refine TQ.rets [2, 3] _ rfl rfl rfl ?_
  have e : lastsS (tx ps) = ([], timesE (tx ps)) := by unfold lastsS; rw [if_neg ht8]
  rw [e]
  exact ⟨none, 0, [], [], rfl, rfl, LL.none, rfl⟩
 ·refine T.skip ?_
  refine TQ.then_n ?_
  refine T.seq ?_
  refine T.region ?_
  refine TL.move hF rfl rfl ?_
  have hB : timesE (tx ps) = 0 := Classical.not_not.1 ht8
  obtain ⟨hl2, hfit⟩ := times_ok hB
  rw [tx_len] at hl2
  obtain ⟨w, hw4, hwid⟩ := fit_wid hfit
  refine TL.call hF (Latest_fn hx.ro (by omega) (fun p hp => by rw [wid_tx hwid p hp]; omega) (wid_tx hwid)) rfl rfl ?_
  rintro _ _ ⟨a2, c2, qs, segs, rfl, htq, rfl, hll, _⟩
  refine TL.assign hF rfl rfl ?_
  refine TL.assign hF rfl rfl ?_
  refine TL.nil ?_
  refine TQ.then_n ?_
  refine T.ret ?_
  refine TQ.rets [2, 3] _ rfl rfl rfl ?_
  have e : lastsS (tx ps) = (lastsT (tx ps), 0) := by unfold lastsS; rw [if_pos hB]
  rw [e]
  exact ⟨a2, c2, qs, segs, rfl, htq, hll, rfl⟩
set_option maxHeartbeats 2000000 in
theorem Beyond_ref {a b : Option Addr} {ps : List HL} {t : List Int} {c d : Nat} (hx : LL S w0 [] a ps) (ht : Row S w0 [] b (ints t)) (hl : ps.length < 2 ^ 63) (hlx : ∀ p ∈ ps, p.2.1.length < 2 ^ 63) (htl : t.length < 2 ^ 63) :
  Rt Tryz.prog 42 [.slice a ps.length c, .slice b t.length d].toArray S w0 η (ResB (beyondS (tx ps) t) η) := by
 have hF := open_wide
 refine Rt.of (fn := Tryz.f42) Tryz.func42 rfl rfl ?_
 refine T.seq ?_
 refine T.region ?_
 refine TL.assign hF rfl rfl ?_
 refine TL.assign hF rfl rfl ?_
 refine TL.nil ?_
 refine TQ.then_n ?_
 refine T.seq ?_
 refine T.seq ?_
 refine T.region ?_
 refine TL.move hF rfl rfl ?_
 refine TL.move hF rfl rfl ?_
 refine TL.buildSlice hF rfl (cs := #[hc (b, t, d)]) (e := 22) (fun w => by kernel_rfl) rfl (fun b9 => ?_)
 refine TL.callV hF (Frontiers_fn (ps := ps) (rs := []) (b := none) (d := 0) (ms := [(b, t, d)]) hx.ro LL.none (LL.one ht.ro (row_own (cs := [hc (b, t, d)]) (e := 22) (by simp))) hl (by simp) (by simp) hlx (by simp) (fun p hp => by rw [List.mem_singleton.1 hp]; exact htl)) rfl rfl ?_
 have eT : frontE (tx ps) (tx []) (tx [(b, t, d)]) = frontE (tx ps) [] [t] := rfl
 rw [eT]
 refine TL.assign hF rfl rfl ?_
 refine TL.nil ?_
 refine TQ.then_n ?_
 refine T.seq ?_
 refine T.region ?_
 refine TL.move hF rfl rfl ?_
 refine TL.bin hF rfl rfl rfl rfl ?_
 refine TL.nil ?_
 refine TQ.then_n ?_
 first | refine T.cond_d rfl (fun ht12 => ?_) (fun ht12 => ?_) | refine T.cond _ rfl (fun ht12 => ?_) (fun ht12 => ?_)
 ·refine T.seq ?_
  refine T.region ?_
  refine TL.move hF rfl rfl ?_
  refine TL.assign hF rfl rfl ?_
  refine TL.assign hF rfl rfl ?_
  refine TL.nil ?_
  refine TQ.then_n ?_
  refine T.ret ?_
  refine TQ.then_r ?_
  refine TQ.rets [4, 5] _ rfl rfl rfl ?_
  have e : beyondS (tx ps) t = (false, frontE (tx ps) [] [t]) := by unfold beyondS; rw [if_neg ht12]
  rw [e]
  exact ⟨rfl, [_], rfl⟩
 ·refine T.skip ?_
  refine TQ.then_n ?_
  refine T.seq ?_
  refine T.region ?_
  refine TL.move hF rfl rfl ?_
  refine TL.move hF rfl rfl ?_
  have hB : frontE (tx ps) [] [t] = 0 := Classical.not_not.1 ht12
  obtain ⟨hl2, _, _, hfit, hfr, _⟩ := front_ok hB
  rw [tx_len] at hl2
  obtain ⟨w, hw4, hwid⟩ := fit_wid hfit
  have hwp : Wid w (tx ps) := (wid_app (wid_app hwid).1).1
  have hwt : t.length = w := (wid_app hwid).2 t (by simp)
  refine TL.callV hF (Past_fn hx.ro ht.ro hl (fun p hp => by rw [hwt]; exact wid_tx hwp p hp) htl) rfl rfl ?_
  refine TL.assign hF rfl rfl ?_
  refine TL.assign hF rfl rfl ?_
  refine TL.nil ?_
  refine TQ.then_n ?_
  refine T.ret ?_
  refine TQ.rets [4, 5] _ rfl rfl rfl ?_
  have e : beyondS (tx ps) t = (pastT (tx ps) t, 0) := by unfold beyondS; rw [if_pos hB]
  rw [e]
  exact ⟨rfl, [_], rfl⟩
set_option maxHeartbeats 2000000 in
theorem Seen_ref {a b : Option Addr} {ps : List HL} {t : List Int} {c d : Nat} (hx : LL S w0 [] a ps) (ht : Row S w0 [] b (ints t)) (hl : ps.length < 2 ^ 63) (hlx : ∀ p ∈ ps, p.2.1.length < 2 ^ 63) (htl : t.length < 2 ^ 63) :
  Rt Tryz.prog 46 [.slice a ps.length c, .slice b t.length d].toArray S w0 η (ResT S w0 (seenS (tx ps) t) η) := by
 have hF := open_wide
 refine Rt.of (fn := Tryz.f46) Tryz.func46 rfl rfl ?_
 refine T.seq ?_
 refine T.region ?_
 refine TL.assign hF rfl rfl ?_
 refine TL.assign hF rfl rfl ?_
 refine TL.nil ?_
 refine TQ.then_n ?_
 refine T.seq ?_
 refine T.seq ?_
 refine T.region ?_
 refine TL.move hF rfl rfl ?_
 refine TL.move hF rfl rfl ?_
 refine TL.buildSlice hF rfl (cs := #[hc (b, t, d)]) (e := 22) (fun w => by kernel_rfl) rfl (fun b9 => ?_)
 refine TL.callV hF (Frontiers_fn (ps := ps) (rs := []) (b := none) (d := 0) (ms := [(b, t, d)]) hx.ro LL.none (LL.one ht.ro (row_own (cs := [hc (b, t, d)]) (e := 22) (by simp))) hl (by simp) (by simp) hlx (by simp) (fun p hp => by rw [List.mem_singleton.1 hp]; exact htl)) rfl rfl ?_
 have eT : frontE (tx ps) (tx []) (tx [(b, t, d)]) = frontE (tx ps) [] [t] := rfl
 rw [eT]
 refine TL.assign hF rfl rfl ?_
 refine TL.nil ?_
 refine TQ.then_n ?_
 refine T.seq ?_
 refine T.region ?_
 refine TL.move hF rfl rfl ?_
 refine TL.bin hF rfl rfl rfl rfl ?_
 refine TL.nil ?_
 refine TQ.then_n ?_
 first | refine T.cond_d rfl (fun ht12 => ?_) (fun ht12 => ?_) | refine T.cond _ rfl (fun ht12 => ?_) (fun ht12 => ?_)
 ·refine T.seq ?_
  refine T.region ?_
  refine TL.move hF rfl rfl ?_
  refine TL.assign hF rfl rfl ?_
  refine TL.assign hF rfl rfl ?_
  refine TL.nil ?_
  refine TQ.then_n ?_
  refine T.ret ?_
  refine TQ.then_r ?_
  refine TQ.rets [4, 5] _ rfl rfl rfl ?_
  have e : seenS (tx ps) t = ([], frontE (tx ps) [] [t]) := by unfold seenS; rw [if_neg ht12]
  rw [e]
  exact ⟨none, 0, [_], rfl, Row.none, rfl⟩
 ·refine T.skip ?_
  refine TQ.then_n ?_
  refine T.seq ?_
  refine T.seq ?_
  refine T.region ?_
  refine TL.move hF rfl rfl ?_
  refine TL.len hF rfl rfl ?_
  refine TL.bin hF rfl rfl rfl rfl ?_
  refine TL.nil ?_
  refine TQ.then_n ?_
  first | refine T.cond_d rfl (fun ht16 => ?_) (fun ht16 => ?_) | refine T.cond _ rfl (fun ht16 => ?_) (fun ht16 => ?_)
  ·refine T.seq ?_
   refine T.region ?_
   refine TL.assign hF rfl rfl ?_
   refine TL.assign hF rfl rfl ?_
   refine TL.nil ?_
   refine TQ.then_n ?_
   refine T.ret ?_
   refine TQ.then_r ?_
   refine TQ.rets [4, 5] _ rfl rfl rfl ?_
   have h0 : tx ps = [] := List.eq_nil_of_length_eq_zero (by rw [tx_len]; omega)
   have e : seenS (tx ps) t = ([], 4) := by unfold seenS; rw [if_pos (Classical.not_not.1 ht12), if_pos h0]
   rw [e]
   exact ⟨none, 0, [_], rfl, Row.none, rfl⟩
  ·refine T.skip ?_
   refine TQ.then_n ?_
   refine T.seq ?_
   refine T.region ?_
   refine TL.move hF rfl rfl ?_
   refine TL.move hF rfl rfl ?_
   have hB : frontE (tx ps) [] [t] = 0 := Classical.not_not.1 ht12
   obtain ⟨hl2, _, _, hfit, hfr, _⟩ := front_ok hB
   rw [tx_len] at hl2
   obtain ⟨w, hw4, hwid⟩ := fit_wid hfit
   have hwp : Wid w (tx ps) := (wid_app (wid_app hwid).1).1
   have hwt : t.length = w := (wid_app hwid).2 t (by simp)
   refine TL.call hF (Stands_fn hx ht hl (by omega) (fun p hp => by rw [hwt]; exact wid_tx hwp p hp) (by omega)) rfl rfl ?_
   rintro _ _ ⟨a2, c2, segs, rfl, hrow, rfl⟩
   refine TL.assign hF rfl rfl ?_
   refine TL.assign hF rfl rfl ?_
   refine TL.nil ?_
   refine TQ.then_n ?_
   refine T.ret ?_
   refine TQ.rets [4, 5] _ rfl rfl rfl ?_
   have h0 : tx ps ≠ [] := fun h => by have h1 := congrArg List.length h; rw [tx_len] at h1; have h2 : ps.length = 0 := h1; omega
   have e : seenS (tx ps) t = (standsT (tx ps) t, 0) := by unfold seenS; rw [if_pos hB, if_neg h0]
   rw [e]
   exact ⟨a2, c2, segs ++ [_], rfl, hrow.up (fun z hz => List.mem_append_left _ hz), by rw [List.append_assoc]; rfl⟩
set_option maxHeartbeats 2000000 in
theorem Ahead_ref {a b : Option Addr} {ps rs : List HL} {c d : Nat} (hx : LL S w0 [] a ps) (hy : LL S w0 [] b rs) (hl : ps.length < 2 ^ 63) (hl2 : rs.length < 2 ^ 63) (hlx : ∀ p ∈ ps, p.2.1.length < 2 ^ 63) (hly : ∀ p ∈ rs, p.2.1.length < 2 ^ 63) :
  Rt Tryz.prog 43 [.slice a ps.length c, .slice b rs.length d].toArray S w0 η (ResB (aheadS (tx ps) (tx rs)) η) := by
 have hF := open_wide
 refine Rt.of (fn := Tryz.f43) Tryz.func43 rfl rfl ?_
 refine T.seq ?_
 refine T.region ?_
 refine TL.assign hF rfl rfl ?_
 refine TL.assign hF rfl rfl ?_
 refine TL.nil ?_
 refine TQ.then_n ?_
 refine T.seq ?_
 refine T.seq ?_
 refine T.region ?_
 refine TL.move hF rfl rfl ?_
 refine TL.move hF rfl rfl ?_
 refine TL.callV hF (Frontiers_fn (ps := ps) (rs := rs) (ms := []) (e := none) (h := 0) hx.ro hy.ro LL.none hl hl2 (by simp) hlx hly (by simp)) rfl rfl ?_
 have eT : frontE (tx ps) (tx rs) (tx []) = frontE (tx ps) (tx rs) [] := rfl
 rw [eT]
 refine TL.assign hF rfl rfl ?_
 refine TL.nil ?_
 refine TQ.then_n ?_
 refine T.seq ?_
 refine T.region ?_
 refine TL.move hF rfl rfl ?_
 refine TL.bin hF rfl rfl rfl rfl ?_
 refine TL.nil ?_
 refine TQ.then_n ?_
 first | refine T.cond_d rfl (fun ht12 => ?_) (fun ht12 => ?_) | refine T.cond _ rfl (fun ht12 => ?_) (fun ht12 => ?_)
 ·refine T.seq ?_
  refine T.region ?_
  refine TL.move hF rfl rfl ?_
  refine TL.assign hF rfl rfl ?_
  refine TL.assign hF rfl rfl ?_
  refine TL.nil ?_
  refine TQ.then_n ?_
  refine T.ret ?_
  refine TQ.then_r ?_
  refine TQ.rets [4, 5] _ rfl rfl rfl ?_
  have e : aheadS (tx ps) (tx rs) = (false, frontE (tx ps) (tx rs) []) := by unfold aheadS; rw [if_neg ht12]
  rw [e]
  exact ⟨rfl, [], rfl⟩
 ·refine T.skip ?_
  refine TQ.then_n ?_
  refine T.seq ?_
  refine T.seq ?_
  refine T.region ?_
  refine TL.assign hF rfl rfl ?_
  refine TL.nil ?_
  refine TQ.then_n ?_
  refine T.block ?_
  have hB : frontE (tx ps) (tx rs) [] = 0 := Classical.not_not.1 ht12
  obtain ⟨hl3, hl4, _, hfit, hfr, hfr2⟩ := front_ok hB
  rw [tx_len] at hl3 hl4
  obtain ⟨w, hw4, hwid⟩ := fit_wid hfit
  have hwp : Wid w (tx ps) := (wid_app (wid_app hwid).1).1
  have hwr : Wid w (tx rs) := (wid_app (wid_app hwid).1).2
  refine T.loop (ι := Nat) (fun k => k ≤ rs.length ∧ aheadT (tx ps) (tx rs) = ((tx rs).drop k).all (pastT (tx ps))) (fun k => [(0, .slice a ps.length c), (1, .slice b rs.length d), (4, .bool false), (5, .int .i64 0), (7, .int .i64 (k : Int))]) (fun _ => η) (fun k => rs.length - k) 0 ⟨Nat.zero_le _, rfl⟩ ⟨rfl, rfl, rfl, rfl, rfl, trivial⟩ rfl ?_
  rintro k ⟨hk, hs⟩
  refine T.seq ?_
  refine T.seq ?_
  refine T.region ?_
  refine TL.move hF rfl rfl ?_
  refine TL.move hF rfl rfl ?_
  refine TL.len hF rfl rfl ?_
  refine TL.bin hF rfl rfl rfl rfl ?_
  refine TL.nil ?_
  refine TQ.then_n ?_
  first | refine T.cond_d rfl (fun ht17 => ?_) (fun ht17 => ?_) | refine T.cond _ rfl (fun ht17 => ?_) (fun ht17 => ?_)
  ·refine T.skip ?_
   refine TQ.then_n ?_
   refine T.seq ?_
   refine T.block ?_
   refine T.seq ?_
   refine T.region ?_
   refine TL.move hF rfl rfl ?_
   refine TL.move hF rfl rfl ?_
   refine TL.move hF rfl rfl ?_
   refine TL.indexAddr hF rfl rfl (hy.ad (i := k) (by omega)) (by omega) (by omega) rfl ?_
   refine TL.load hF rfl (hy.ro.at (i := k) (by omega)) rfl ?_
   have hku : k < rs.length := by omega
   have e1 := aheadT_drop (f := tx ps) (g := tx rs) (k := k) (by rw [tx_len]; omega)
   rw [tx_get hku] at e1
   refine TL.callV hF (Past_fn hx.ro (hy.ro.it hku) hl (fun p hp => by rw [wid_tx hwp p hp, wid_tx hwr _ (List.getElem_mem hku)]) (by rw [wid_tx hwr _ (List.getElem_mem hku)]; omega)) rfl rfl ?_
   refine TL.not hF rfl rfl ?_
   refine TL.nil ?_
   refine TQ.then_n ?_
   refine T.cond _ rfl (fun ht26 => ?_) (fun ht26 => ?_)
   all_goals simp only [Bool.not_eq_true', Bool.not_eq_false'] at ht26
   ·refine T.seq ?_
    refine T.region ?_
    refine TL.assign hF rfl rfl ?_
    refine TL.assign hF rfl rfl ?_
    refine TL.nil ?_
    refine TQ.then_n ?_
    refine T.ret ?_
    refine TQ.block_r ?_
    refine TQ.then_r ?_
    refine TQ.then_r ?_
    refine TQ.block_r ?_
    refine TQ.then_r ?_
    refine TQ.rets [4, 5] _ rfl rfl rfl ?_
    have e : aheadS (tx ps) (tx rs) = (false, 0) := by unfold aheadS; rw [if_pos hB, hs, e1, ht26, Bool.false_and]
    rw [e]
    exact ⟨rfl, [], rfl⟩
   ·refine T.skip ?_
    refine TQ.block_n ?_
    refine TQ.then_n ?_
    refine T.region ?_
    refine TL.move hF rfl rfl ?_
    refine TL.add hF rfl rfl (by omega) (by omega) rfl ?_
    refine TL.assign hF rfl rfl ?_
    refine TL.nil ?_
    refine TQ.round (k + 1) ⟨by omega, by rw [hs, e1, ht26, Bool.true_and]⟩ (by omega) ⟨rfl, rfl, rfl, rfl, rfl, trivial⟩ rfl
  ·refine T.exit ?_
   refine TQ.then_x ?_
   refine TQ.then_x ?_
   refine TQ.block_x ?_
   refine TQ.then_n ?_
   refine T.seq ?_
   refine T.region ?_
   refine TL.assign hF rfl rfl ?_
   refine TL.assign hF rfl rfl ?_
   refine TL.nil ?_
   refine TQ.then_n ?_
   refine T.ret ?_
   refine TQ.rets [4, 5] _ rfl rfl rfl ?_
   have e : aheadS (tx ps) (tx rs) = (true, 0) := by unfold aheadS; rw [if_pos hB, hs, List.drop_of_length_le (by rw [tx_len]; omega), List.all_nil]
   rw [e]
   exact ⟨rfl, [], rfl⟩
set_option maxHeartbeats 2000000 in
theorem Either_ref {a b : Option Addr} {ps rs : List HL} {c d : Nat} (hx : LL S w0 [] a ps) (hy : LL S w0 [] b rs) (hl : ps.length < 2 ^ 63) (hl2 : rs.length < 2 ^ 63) (hlx : ∀ p ∈ ps, p.2.1.length < 2 ^ 63) (hly : ∀ p ∈ rs, p.2.1.length < 2 ^ 63) :
  Rt Tryz.prog 44 [.slice a ps.length c, .slice b rs.length d].toArray S w0 η (ResL S w0 (eitherS (tx ps) (tx rs)) η) := by
 have hF := open_wide
 refine Rt.of (fn := Tryz.f44) Tryz.func44 rfl rfl ?_
 refine T.seq ?_
 refine T.region ?_
 refine TL.assign hF rfl rfl ?_
 refine TL.assign hF rfl rfl ?_
 refine TL.nil ?_
 refine TQ.then_n ?_
 refine T.seq ?_
 refine T.seq ?_
 refine T.region ?_
 refine TL.move hF rfl rfl ?_
 refine TL.move hF rfl rfl ?_
 refine TL.callV hF (Frontiers_fn (ps := ps) (rs := rs) (ms := []) (e := none) (h := 0) hx.ro hy.ro LL.none hl hl2 (by simp) hlx hly (by simp)) rfl rfl ?_
 have eT : frontE (tx ps) (tx rs) (tx []) = frontE (tx ps) (tx rs) [] := rfl
 rw [eT]
 refine TL.assign hF rfl rfl ?_
 refine TL.nil ?_
 refine TQ.then_n ?_
 refine T.seq ?_
 refine T.region ?_
 refine TL.move hF rfl rfl ?_
 refine TL.bin hF rfl rfl rfl rfl ?_
 refine TL.nil ?_
 refine TQ.then_n ?_
 first | refine T.cond_d rfl (fun ht11 => ?_) (fun ht11 => ?_) | refine T.cond _ rfl (fun ht11 => ?_) (fun ht11 => ?_)
 ·refine T.seq ?_
  refine T.region ?_
  refine TL.move hF rfl rfl ?_
  refine TL.assign hF rfl rfl ?_
  refine TL.assign hF rfl rfl ?_
  refine TL.nil ?_
  refine TQ.then_n ?_
  refine T.ret ?_
  refine TQ.then_r ?_
  refine TQ.rets [4, 5] _ rfl rfl rfl ?_
  have e : eitherS (tx ps) (tx rs) = ([], frontE (tx ps) (tx rs) []) := by unfold eitherS; rw [if_neg ht11]
  rw [e]
  exact ⟨none, 0, [], [], rfl, rfl, LL.none, rfl⟩
 ·refine T.skip ?_
  refine TQ.then_n ?_
  refine T.seq ?_
  refine T.region ?_
  have hB : frontE (tx ps) (tx rs) [] = 0 := Classical.not_not.1 ht11
  obtain ⟨hl3, hl4, _, hfit, hfr, hfr2⟩ := front_ok hB
  rw [tx_len] at hl3 hl4
  obtain ⟨w, hw4, hwid⟩ := fit_wid hfit
  have hwp : Wid w (tx ps) := (wid_app (wid_app hwid).1).1
  have hwr : Wid w (tx rs) := (wid_app (wid_app hwid).1).2
  refine TL.buildSlice hF rfl (cs := #[]) (e := 22) (fun w => by kernel_rfl) rfl (fun b13 => ?_)
  refine TL.move hF rfl rfl ?_
  refine TL.append hF 0 rfl rfl rfl osl_empty (hx.row.ro (η' := _)).src rfl (by simp [Value.cells]) (hc1 _) (by omega) (by omega) rfl (fun a1 c1 s1 ho1 => ?_)
  rw [Nat.zero_add, List.nil_append] at ho1
  rw [Nat.zero_add]
  refine TL.move hF rfl rfl ?_
  refine TL.append hF 0 rfl rfl rfl ho1 (hy.row.ro (η' := _)).src rfl (by simp [Value.cells]) (hc1 _) (by omega) (by omega) rfl (fun a2 c2 s2 ho2 => ?_)
  rw [← List.map_append, ← List.length_append] at ho2
  rw [← List.length_append]
  have hall : LL S w0 (s2 :: η) a2 (ps ++ rs) := LL.append hx.ro hy.ro (ho2.row List.mem_cons_self)
  have hwa : Wid w (tx (ps ++ rs)) := by rw [tx_append]; exact (wid_app hwid).1
  refine TL.call hF (Earliest_fn hall (by rw [List.length_append]; omega) (fun p hp => by rw [wid_tx hwa p hp]; omega) (wid_tx hwa)) rfl rfl ?_
  rintro _ _ ⟨a3, c3, qs, segs, rfl, htq, rfl, hll, _⟩
  refine TL.assign hF rfl rfl ?_
  refine TL.assign hF rfl rfl ?_
  refine TL.nil ?_
  refine TQ.then_n ?_
  refine T.ret ?_
  refine TQ.rets [4, 5] _ rfl rfl rfl ?_
  have e : eitherS (tx ps) (tx rs) = (firstsT (tx ps ++ tx rs), 0) := by unfold eitherS; rw [if_pos hB]
  rw [e]
  exact ⟨a3, c3, qs, segs ++ [s2], rfl, by rw [htq, tx_append]; rfl, hll.up (fun z hz => List.mem_append_left _ hz), by rw [List.append_assoc]; rfl⟩
structure JoS where
 a : Option Addr
 c : Nat
 l : List (HL × Seg)
 g : Seg
set_option maxHeartbeats 2000000 in
theorem Both_ref {a b : Option Addr} {ps rs : List HL} {c d : Nat} (hx : LL S w0 [] a ps) (hy : LL S w0 [] b rs) (hl : ps.length < 2 ^ 63) (hl2 : rs.length < 2 ^ 63) (hlx : ∀ p ∈ ps, p.2.1.length < 2 ^ 63) (hly : ∀ p ∈ rs, p.2.1.length < 2 ^ 63) :
  Rt Tryz.prog 45 [.slice a ps.length c, .slice b rs.length d].toArray S w0 η (ResL S w0 (bothS (tx ps) (tx rs)) η) := by
 have hF := open_wide
 refine Rt.of (fn := Tryz.f45) Tryz.func45 rfl rfl ?_
 refine T.seq ?_
 refine T.region ?_
 refine TL.assign hF rfl rfl ?_
 refine TL.assign hF rfl rfl ?_
 refine TL.nil ?_
 refine TQ.then_n ?_
 refine T.seq ?_
 refine T.seq ?_
 refine T.region ?_
 refine TL.move hF rfl rfl ?_
 refine TL.move hF rfl rfl ?_
 refine TL.callV hF (Frontiers_fn (ps := ps) (rs := rs) (ms := []) (e := none) (h := 0) hx.ro hy.ro LL.none hl hl2 (by simp) hlx hly (by simp)) rfl rfl ?_
 have eT : frontE (tx ps) (tx rs) (tx []) = frontE (tx ps) (tx rs) [] := rfl
 rw [eT]
 refine TL.assign hF rfl rfl ?_
 refine TL.nil ?_
 refine TQ.then_n ?_
 refine T.seq ?_
 refine T.region ?_
 refine TL.move hF rfl rfl ?_
 refine TL.bin hF rfl rfl rfl rfl ?_
 refine TL.nil ?_
 refine TQ.then_n ?_
 first | refine T.cond_d rfl (fun ht14 => ?_) (fun ht14 => ?_) | refine T.cond _ rfl (fun ht14 => ?_) (fun ht14 => ?_)
 ·refine T.seq ?_
  refine T.region ?_
  refine TL.move hF rfl rfl ?_
  refine TL.assign hF rfl rfl ?_
  refine TL.assign hF rfl rfl ?_
  refine TL.nil ?_
  refine TQ.then_n ?_
  refine T.ret ?_
  refine TQ.then_r ?_
  refine TQ.rets [4, 5] _ rfl rfl rfl ?_
  have e : bothS (tx ps) (tx rs) = ([], frontE (tx ps) (tx rs) []) := by unfold bothS; rw [if_neg ht14]
  rw [e]
  exact ⟨none, 0, [], [], rfl, rfl, LL.none, rfl⟩
 ·refine T.skip ?_
  refine TQ.then_n ?_
  refine T.seq ?_
  refine T.region ?_
  have hB : frontE (tx ps) (tx rs) [] = 0 := Classical.not_not.1 ht14
  obtain ⟨hl3, hl4, _, hfit, hfr, hfr2⟩ := front_ok hB
  rw [tx_len] at hl3 hl4
  obtain ⟨w, hw4, hwid⟩ := fit_wid hfit
  have hwp : Wid w (tx ps) := (wid_app (wid_app hwid).1).1
  have hwr : Wid w (tx rs) := (wid_app (wid_app hwid).1).2
  have hmul : ps.length * rs.length ≤ 200 * 200 := Nat.mul_le_mul (by omega) (by omega)
  refine TL.buildSlice hF rfl (cs := #[]) (e := 22) (fun w => by kernel_rfl) rfl (fun b16 => ?_)
  refine TL.assign hF rfl rfl ?_
  refine TL.nil ?_
  refine TQ.then_n ?_
  refine T.seq ?_
  refine T.seq ?_
  refine T.region ?_
  refine TL.assign hF rfl rfl ?_
  refine TL.nil ?_
  refine TQ.then_n ?_
  refine T.block ?_
  refine T.loop (ι := Nat × JoS) (fun i => match i with | (k, s) => k ≤ ps.length ∧ OL 22 (.slice s.a s.l.length s.c) s.l s.g ∧ s.l.map (fun t => t.1.2.1) = (joinsT (tx ps) (tx rs)).take (k * rs.length + 0)) (fun i => match i with | (k, s) => [(0, .slice a ps.length c), (1, .slice b rs.length d), (7, .slice s.a s.l.length s.c), (8, .int .i64 (k : Int))]) (fun i => match i with | (k, s) => s.g :: (s.l.reverse.map (·.2) ++ η)) (fun i => ps.length - i.1) (0, ⟨some ⟨b16, 0, none⟩, 0, [], _⟩) ⟨Nat.zero_le _, ⟨osl_empty, fun t ht => by simp at ht⟩, by simp⟩ ⟨rfl, rfl, rfl, rfl, trivial⟩ rfl ?_
  rintro ⟨k, s⟩ ⟨hk, hol, hto⟩
  refine T.seq ?_
  refine T.seq ?_
  refine T.region ?_
  refine TL.move hF rfl rfl ?_
  refine TL.move hF rfl rfl ?_
  refine TL.len hF rfl rfl ?_
  refine TL.bin hF rfl rfl rfl rfl ?_
  refine TL.nil ?_
  refine TQ.then_n ?_
  first | refine T.cond_d rfl (fun ht20 => ?_) (fun ht20 => ?_) | refine T.cond _ rfl (fun ht20 => ?_) (fun ht20 => ?_)
  ·refine T.skip ?_
   refine TQ.then_n ?_
   refine T.seq ?_
   refine T.block ?_
   refine T.seq ?_
   refine T.region ?_
   refine TL.assign hF rfl rfl ?_
   refine TL.nil ?_
   refine TQ.then_n ?_
   refine T.block ?_
   have hkl : k < ps.length := by omega
   refine T.loop (ι := Nat × JoS) (fun i => match i with | (j, s) => j ≤ rs.length ∧ OL 22 (.slice s.a s.l.length s.c) s.l s.g ∧ s.l.map (fun t => t.1.2.1) = (joinsT (tx ps) (tx rs)).take (k * rs.length + j)) (fun i => match i with | (j, s) => [(0, .slice a ps.length c), (1, .slice b rs.length d), (7, .slice s.a s.l.length s.c), (8, .int .i64 (k : Int)), (9, .int .i64 (j : Int))]) (fun i => match i with | (j, s) => s.g :: (s.l.reverse.map (·.2) ++ η)) (fun i => rs.length - i.1) (0, s) ⟨Nat.zero_le _, hol, hto⟩ ⟨rfl, rfl, rfl, rfl, rfl, trivial⟩ rfl ?_
   clear hol hto
   rintro ⟨j, s⟩ ⟨hj, hol, hto⟩
   refine T.seq ?_
   refine T.seq ?_
   refine T.region ?_
   refine TL.move hF rfl rfl ?_
   refine TL.move hF rfl rfl ?_
   refine TL.len hF rfl rfl ?_
   refine TL.bin hF rfl rfl rfl rfl ?_
   refine TL.nil ?_
   refine TQ.then_n ?_
   first | refine T.cond_d rfl (fun ht26 => ?_) (fun ht26 => ?_) | refine T.cond _ rfl (fun ht26 => ?_) (fun ht26 => ?_)
   ·refine T.skip ?_
    refine TQ.then_n ?_
    refine T.seq ?_
    refine T.block ?_
    have hjl : j < rs.length := by omega
    have hja := joins_at (qs := ps) (us := rs) hkl hjl
    have hlt := (List.getElem?_eq_some_iff.1 hja).1
    rw [joins_len] at hlt
    have hsl : s.l.length = k * rs.length + j := by have := congrArg List.length hto; rw [List.length_map, List.length_take, joins_len] at this; omega
    have hlen : ps[k].2.1.length = rs[j].2.1.length := (wid_tx hwp _ (List.getElem_mem hkl)).trans (wid_tx hwr _ (List.getElem_mem hjl)).symm
    have hlw := wid_tx hwp _ (List.getElem_mem hkl)
    refine T.drawH 11 mixed ?_
    refine DH.pure (i := 0) [(7, _, none)] rfl rfl rfl rfl ⟨⟨rfl, by kernel_rfl⟩, trivial⟩ (fun _ ext => TL.move hF rfl rfl TL.fin) ?_
    refine DH.pure (i := 1) [(0, _, none)] rfl rfl rfl rfl ⟨⟨rfl, by kernel_rfl⟩, trivial⟩ (fun _ ext => TL.move hF rfl rfl TL.fin) ?_
    refine DH.pure (i := 2) [(8, _, none)] rfl rfl rfl rfl ⟨⟨rfl, by kernel_rfl⟩, trivial⟩ (fun _ ext => TL.move hF rfl rfl TL.fin) ?_
    refine DH.pure (i := 3) [(30, _, some 1), (31, _, some 2)] rfl rfl rfl rfl ⟨⟨rfl, rfl, rfl⟩, ⟨rfl, rfl, rfl⟩, trivial⟩ (fun _ ext => TL.indexAddr hF rfl rfl (hx.ad hkl) (by omega) (by omega) rfl TL.fin) ?_
    refine DH.read (i := 4) [(32, _, some 3)] rfl rfl rfl rfl ⟨⟨rfl, rfl, rfl⟩, trivial⟩ (fun ext => TL.load hF rfl (hx.ro.at hkl) rfl TL.fin) ?_
    refine DH.pure (i := 5) [(1, _, none)] rfl rfl rfl rfl ⟨⟨rfl, by kernel_rfl⟩, trivial⟩ (fun _ ext => TL.move hF rfl rfl TL.fin) ?_
    refine DH.pure (i := 6) [(9, _, none)] rfl rfl rfl rfl ⟨⟨rfl, by kernel_rfl⟩, trivial⟩ (fun _ ext => TL.move hF rfl rfl TL.fin) ?_
    refine DH.pure (i := 7) [(34, _, some 5), (35, _, some 6)] rfl rfl rfl rfl ⟨⟨rfl, rfl, rfl⟩, ⟨rfl, rfl, rfl⟩, trivial⟩ (fun _ ext => TL.indexAddr hF rfl rfl (hy.ad hjl) (by omega) (by omega) rfl TL.fin) ?_
    refine DH.read (i := 8) [(36, _, some 7)] rfl rfl rfl rfl ⟨⟨rfl, rfl, rfl⟩, trivial⟩ (fun ext => TL.load hF rfl (hy.ro.at hjl) rfl TL.fin) ?_
    refine DH.heavy 9 [(33, _, some 4), (37, _, some 8)] (by kernel_rfl) (by kernel_rfl) (by kernel_rfl) (by kernel_rfl) rfl rfl rfl rfl ⟨⟨rfl, rfl, rfl⟩, ⟨rfl, rfl, rfl⟩, trivial⟩ (by kernel_rfl) (fun ext => ?_)
    refine TL.call hF (Upper_fn (hx.ro.it hkl) (hy.ro.it hjl) hlen (by omega)) rfl rfl ?_
    rintro _ _ ⟨ua, uc, us, rfl, hu, rfl⟩
    refine TL.finD ?_
    refine DH.heavy 10 [(38, _, some 9)] (by kernel_rfl) (by kernel_rfl) (by kernel_rfl) (by kernel_rfl) rfl rfl rfl rfl ⟨⟨rfl, rfl, rfl⟩, trivial⟩ (by kernel_rfl) (fun ext => ?_)
    refine TL.buildSlice hF rfl (cs := #[.slice ua ps[k].2.1.length uc]) (e := 22) (fun w => by kernel_rfl) rfl (fun b39 => ?_)
    refine TL.finD ?_
    refine DH.done [(39, _), (38, _), (37, _), (36, _), (35, _), (34, _), (33, _), (32, _), (31, _), (30, _), (29, _)] [_, _] (by kernel_rfl) (by kernel_rfl) (by kernel_rfl) (by kernel_rfl) rfl rfl ?_
    refine TL.append hF 2 rfl rfl rfl hol.o (row_own (cs := [.slice ua ps[k].2.1.length uc]) (e := 22) (by simp)).src rfl rfl (by simp [Value.oneCell']) (by omega) (by omega) rfl (fun a' cap' seg' ho' => ?_)
    refine TL.assign hF rfl rfl ?_
    refine TL.nil ?_
    refine TQ.block_n ?_
    refine TQ.then_n ?_
    refine T.region ?_
    refine TL.move hF rfl rfl ?_
    refine TL.add hF rfl rfl (by omega) (by omega) rfl ?_
    refine TL.assign hF rfl rfl ?_
    refine TL.nil ?_
    have ejl : (tjoin ps[k].2.1 rs[j].2.1).length = ps[k].2.1.length := tjoin_len hlen
    have e4 : s.l.length + 1 = (s.l ++ [(((ua, tjoin ps[k].2.1 rs[j].2.1, uc) : HL), us)]).length := by simp
    refine TQ.pick [2, 1] [_, _, _] rfl rfl rfl ?_
    refine TQ.round (j + 1, ⟨a', cap', s.l ++ [((ua, tjoin ps[k].2.1 rs[j].2.1, uc), us)], seg'⟩) ⟨by omega, ⟨?_, ?_⟩, ?_⟩ (by dsimp only; omega) ⟨rfl, rfl, congrArg (fun n : Nat => some (Value.slice a' n cap')) e4, rfl, rfl, trivial⟩ (by simp [pickL])
    ·dsimp only
     rw [← e4, List.map_append]
     have e5 : hc (ua, tjoin ps[k].2.1 rs[j].2.1, uc) = .slice ua ps[k].2.1.length uc := by simp only [hc]; rw [ejl]
     simp only [List.map_cons, List.map_nil]
     rw [e5]; exact ho'
    ·intro t ht
     rcases List.mem_append.1 ht with h | h
     ·exact hol.i t h
     ·rw [List.mem_singleton.1 h]; simp only [hc]; rw [ejl]; exact hu
    ·dsimp only
     rw [List.map_append, hto, ← Nat.add_assoc, List.take_succ_eq_append_getElem (by rw [joins_len]; exact hlt), (List.getElem?_eq_some_iff.1 hja).2]; rfl
   ·refine T.exit ?_
    refine TQ.then_x ?_
    refine TQ.then_x ?_
    refine TQ.block_x ?_
    refine TQ.block_n ?_
    refine TQ.then_n ?_
    refine T.region ?_
    refine TL.move hF rfl rfl ?_
    refine TL.add hF rfl rfl (by omega) (by omega) rfl ?_
    refine TL.assign hF rfl rfl ?_
    refine TL.nil ?_
    have hju : j = rs.length := by omega
    refine TQ.round (k + 1, s) ⟨by omega, hol, ?_⟩ (by dsimp only; omega) ⟨rfl, rfl, rfl, rfl, trivial⟩ rfl
    rw [hto]; congr 1; rw [Nat.add_mul]; omega
  ·refine T.exit ?_
   refine TQ.then_x ?_
   refine TQ.then_x ?_
   refine TQ.block_x ?_
   refine TQ.then_n ?_
   refine T.seq ?_
   refine T.region ?_
   refine TL.move hF rfl rfl ?_
   have hto2 : s.l.map (fun t => t.1.2.1) = joinsT (tx ps) (tx rs) := by rw [hto, show k = ps.length by omega, List.take_of_length_le (by rw [joins_len]; exact Nat.le_refl _)]
   have htx2 : tx (s.l.map (·.1)) = joinsT (tx ps) (tx rs) := by rw [← hto2]; simp [tx, List.map_map, Function.comp_def]
   have hsl : s.l.length ≤ 40000 := by have := congrArg List.length hto2; rw [List.length_map, joins_len] at this; omega
   have hwj : ∀ p ∈ s.l.map (·.1), p.2.1.length = w := wid_tx (by
     rw [htx2]; intro x hx
     obtain ⟨y, hy, hx2⟩ := List.mem_flatMap.1 hx
     obtain ⟨z, hz, rfl⟩ := List.mem_map.1 hx2
     rw [tjoin_len ((hwp y hy).trans (hwr z hz).symm)]; exact hwp y hy)
   have hl1 := hol.ll (S := S) (w0 := w0) (η := s.g :: (s.l.reverse.map (·.2) ++ η)) List.mem_cons_self (fun t ht => List.mem_cons_of_mem _ (List.mem_append_left _ (List.mem_map_of_mem (List.mem_reverse.2 ht))))
   have hE := Earliest_fn (c := s.c) hl1 (by rw [List.length_map]; omega) (fun p hp => by rw [hwj p hp]; omega) hwj
   rw [List.length_map] at hE
   refine TL.call hF hE rfl rfl ?_
   rintro _ _ ⟨a3, c3, qs, segs, rfl, htq, rfl, hll, _⟩
   refine TL.assign hF rfl rfl ?_
   refine TL.assign hF rfl rfl ?_
   refine TL.nil ?_
   refine TQ.then_n ?_
   refine T.ret ?_
   refine TQ.rets [4, 5] _ rfl rfl rfl ?_
   have e : bothS (tx ps) (tx rs) = (firstsT (joinsT (tx ps) (tx rs)), 0) := by unfold bothS; rw [if_pos hB]
   rw [e]
   exact ⟨a3, c3, qs, segs ++ (s.g :: s.l.reverse.map (·.2)), rfl, by rw [htq, htx2]; rfl, hll.up (fun z hz => List.mem_append_left _ hz), by rw [List.append_assoc]; rfl⟩
end Go.Proofs.YteimjjpigohnhaaGreat
/- Results are of bounded length. -/
namespace Go.Proofs.YteimjjpigohnhaaGreat
open Go.Sl
variable {S : Nat → Prop} {w0 : World} {η : Heap}
def GoodL (L : List Tm) : Prop := L.length < 65536 ∧ ∀ x ∈ L, x.length ≤ 4
theorem GoodL.nil : GoodL [] := ⟨by decide, by simp⟩
theorem GoodL.sub {L M : List Tm} (h : GoodL L) (hl : M.length ≤ L.length) (hm : ∀ x ∈ M, x ∈ L) : GoodL M := ⟨Nat.lt_of_le_of_lt hl h.1, fun x hx => h.2 x (hm x hx)⟩
theorem good_times {l : List Tm} (h : timesE l = 0) : GoodL l := by
  obtain ⟨h1, h2⟩ := times_ok h
  obtain ⟨w, hw, hwid⟩ := fit_wid h2
  exact ⟨by omega, fun x hx => by rw [hwid x hx]; exact hw⟩
theorem GoodL.sort {L : List Tm} (h : GoodL L) : GoodL (sortT L) := h.sub (sortT_len L) fun _ hx => mem_sortT.1 hx
theorem GoodL.firsts {L : List Tm} (h : GoodL L) : GoodL (firstsT L) := h.sort.sub (List.length_filter_le _ _) fun _ hx => (List.mem_filter.1 hx).1
theorem GoodL.lasts {L : List Tm} (h : GoodL L) : GoodL (lastsT L) := h.sort.sub (List.length_filter_le _ _) fun _ hx => (List.mem_filter.1 hx).1
theorem sortS_good (l : List Tm) : GoodL (sortS l).1 := by unfold sortS; split; exact (good_times ‹_›).sort; exact GoodL.nil
theorem firstsS_good (l : List Tm) : GoodL (firstsS l).1 := by unfold firstsS; split; exact (good_times ‹_›).firsts; exact GoodL.nil
theorem lastsS_good (l : List Tm) : GoodL (lastsS l).1 := by unfold lastsS; split; exact (good_times ‹_›).lasts; exact GoodL.nil
theorem front_good {f g m : List Tm} (h : frontE f g m = 0) : GoodL (f ++ g) ∧ GoodL (joinsT f g) := by
  obtain ⟨h1, h2, h3, hfit, _, _⟩ := front_ok h
  obtain ⟨w, hw, hwid⟩ := fit_wid hfit
  have h4 := (wid_app hwid).1
  have hf := (wid_app h4).1
  have hg := (wid_app h4).2
  refine ⟨⟨by rw [List.length_append]; omega, fun x hx => by rw [h4 x hx]; exact hw⟩, ?_, fun x hx => ?_⟩
  · unfold joinsT
    rw [flat_len g.length _ (fun x => by simp)]
    have := Nat.mul_le_mul h1 h2; omega
  · unfold joinsT at hx
    obtain ⟨y, hy, hx2⟩ := List.mem_flatMap.1 hx
    obtain ⟨z, hz, rfl⟩ := List.mem_map.1 hx2
    rw [tjoin_len ((hf y hy).trans (hg z hz).symm), hf y hy]; exact hw
theorem eitherS_good (f g : List Tm) : GoodL (eitherS f g).1 := by unfold eitherS; split; exact (front_good ‹_›).1.firsts; exact GoodL.nil
theorem bothS_good (f g : List Tm) : GoodL (bothS f g).1 := by unfold bothS; split; exact (front_good ‹_›).2.firsts; exact GoodL.nil
theorem fit2_len {xs ys : Tm} (h : fitT [xs, ys] = true) : xs.length = ys.length ∧ xs.length ≤ 4 := ⟨(fit2 h).1, (fit2 h).2.1⟩
theorem meetS_len (xs ys : Tm) : (meetS xs ys).1.length ≤ 4 := by
  unfold meetS; split
  · have h := fit2_len ‹_›; show (tmeet xs ys).length ≤ 4; rw [tmeet_len h.1]; exact h.2
  · exact Nat.zero_le _
theorem joinS_len (xs ys : Tm) : (joinS xs ys).1.length ≤ 4 := by
  unfold joinS; split
  · have h := fit2_len ‹_›; show (tjoin xs ys).length ≤ 4; rw [tjoin_len h.1]; exact h.2
  · exact Nat.zero_le _
theorem seenS_len (f : List Tm) (t : Tm) : (seenS f t).1.length ≤ 4 := by
  unfold seenS; split
  · rename_i h
    split
    · exact Nat.zero_le _
    · obtain ⟨_, _, _, hfit, _, _⟩ := front_ok h
      obtain ⟨w, hw, hwid⟩ := fit_wid hfit
      have hf := (wid_app (wid_app hwid).1).1
      have ht := (wid_app hwid).2 t (by simp)
      show (standsT f t).length ≤ 4
      rw [stands_len hf ht]; exact hw
  · exact Nat.zero_le _
theorem Eq_same {a b : Option Addr} {xs : List Int} {c d : Nat} (hx : Row S w0 η a (ints xs)) (hy : Row S w0 η b (ints xs)) (h4 : xs.length ≤ 4) : Rt Tryz.prog 18 [.slice a xs.length c, .slice b xs.length d].toArray S w0 η (fun v η' => v = .bool true ∧ η' = η) := by
  have h := Equal_fn (ca := c) (cb := d) hx hy (by omega)
  rw [decide_eq_true rfl] at h
  exact h
theorem EqL_same {a b : Option Addr} {ps qs : List HL} {L : List Tm} {c d : Nat} (hx : LL S w0 η a ps) (hy : LL S w0 η b qs) (h1 : tx ps = L) (h2 : tx qs = L) (hg : GoodL L) : Rt Tryz.prog 35 [.slice a ps.length c, .slice b qs.length d].toArray S w0 η (fun v η' => v = .bool true ∧ η' = η) :=
  EqL_lit hx hy h1 h2 (by have := hg.1; omega) (fun x hx => by have := hg.2 x hx; omega)
end Go.Proofs.YteimjjpigohnhaaGreat
/- Times that fit: what functions make of them. -/
namespace Go.Proofs.YteimjjpigohnhaaGreat
open Go.Sl
/-- A time of so many numbers. -/
def Tw (w : Nat) (t : Tm) : Prop := t.length = w ∧ isT t = true
def Tws (w : Nat) (l : List Tm) : Prop := ∀ x ∈ l, Tw w x
theorem Tws.wid {w : Nat} {l : List Tm} (h : Tws w l) : Wid w l := fun x hx => (h x hx).1
theorem isT_iff {t : Tm} : isT t = true ↔ (1 ≤ t.length ∧ t.length ≤ 4) ∧ ∀ n ∈ t, 0 ≤ n ∧ n ≤ 1073741824 := by simp [isT]
theorem tw_tmI {w : Nat} (h1 : 1 ≤ w) (h4 : w ≤ 4) (n : Int) : Tw w (tmI w n) := ⟨tmI_len w n, isT_iff.2 ⟨by rw [tmI_len]; exact ⟨h1, h4⟩, fun x hx => by have := tmI_range w n x hx; omega⟩⟩
theorem tws_tms {w : Nat} (h1 : 1 ≤ w) (h4 : w ≤ 4) (l : List Int) (k : Nat) : Tws w (tmsI l w k) := fun x hx => by
  obtain ⟨n, _, rfl⟩ := List.mem_map.1 hx
  exact tw_tmI h1 h4 n
theorem tmsI_len (l : List Int) (w k : Nat) : (tmsI l w k).length ≤ k := by unfold tmsI; rw [List.length_map, List.length_take]; omega
theorem Tws.nil (w : Nat) : Tws w [] := fun _ h => by simp at h
theorem Tws.one {w : Nat} {t : Tm} (h : Tw w t) : Tws w [t] := fun x hx => by rw [List.mem_singleton.1 hx]; exact h
theorem Tws.app {w : Nat} {l m : List Tm} (h : Tws w l) (h2 : Tws w m) : Tws w (l ++ m) := fun x hx => (List.mem_append.1 hx).elim (h x) (h2 x)
theorem Tws.sub {w : Nat} {l m : List Tm} (h : Tws w l) (hm : ∀ x ∈ m, x ∈ l) : Tws w m := fun x hx => h x (hm x hx)
theorem Tws.firsts {w : Nat} {l : List Tm} (h : Tws w l) : Tws w (firstsT l) := h.sub fun _ hx => (mem_outT.1 hx).1
theorem Tws.lasts {w : Nat} {l : List Tm} (h : Tws w l) : Tws w (lastsT l) := h.sub fun _ hx => (mem_outT.1 hx).1
theorem join_range : ∀ {a b : Tm}, (∀ n ∈ a, 0 ≤ n ∧ n ≤ 1073741824) → (∀ n ∈ b, 0 ≤ n ∧ n ≤ 1073741824) → ∀ n ∈ tjoin a b, 0 ≤ n ∧ n ≤ 1073741824
  | [], _, _, _, n, h => by simp [tjoin] at h
  | _ :: _, [], _, _, n, h => by simp [tjoin] at h
  | x :: a, y :: b, ha, hb, n, h => by
    have hx := ha x List.mem_cons_self
    have hy := hb y List.mem_cons_self
    simp only [tjoin, List.zipWith_cons_cons, List.mem_cons] at h
    rcases h with rfl | h
    · omega
    · exact join_range (fun n hn => ha n (List.mem_cons_of_mem _ hn)) (fun n hn => hb n (List.mem_cons_of_mem _ hn)) n h
theorem meet_range : ∀ {a b : Tm}, (∀ n ∈ a, 0 ≤ n ∧ n ≤ 1073741824) → (∀ n ∈ b, 0 ≤ n ∧ n ≤ 1073741824) → ∀ n ∈ tmeet a b, 0 ≤ n ∧ n ≤ 1073741824
  | [], _, _, _, n, h => by simp [tmeet] at h
  | _ :: _, [], _, _, n, h => by simp [tmeet] at h
  | x :: a, y :: b, ha, hb, n, h => by
    have hx := ha x List.mem_cons_self
    have hy := hb y List.mem_cons_self
    simp only [tmeet, List.zipWith_cons_cons, List.mem_cons] at h
    rcases h with rfl | h
    · omega
    · exact meet_range (fun n hn => ha n (List.mem_cons_of_mem _ hn)) (fun n hn => hb n (List.mem_cons_of_mem _ hn)) n h
theorem Tw.join {w : Nat} {a b : Tm} (ha : Tw w a) (hb : Tw w b) : Tw w (tjoin a b) := by
  have h1 := isT_iff.1 ha.2; have h2 := isT_iff.1 hb.2
  have e : (tjoin a b).length = w := by rw [tjoin_len (ha.1.trans hb.1.symm), ha.1]
  exact ⟨e, isT_iff.2 ⟨by rw [e, ← ha.1]; exact h1.1, join_range h1.2 h2.2⟩⟩
theorem Tw.meet {w : Nat} {a b : Tm} (ha : Tw w a) (hb : Tw w b) : Tw w (tmeet a b) := by
  have h1 := isT_iff.1 ha.2; have h2 := isT_iff.1 hb.2
  have e : (tmeet a b).length = w := by rw [tmeet_len (ha.1.trans hb.1.symm), ha.1]
  exact ⟨e, isT_iff.2 ⟨by rw [e, ← ha.1]; exact h1.1, meet_range h1.2 h2.2⟩⟩
theorem Tws.joins {w : Nat} {f g : List Tm} (hf : Tws w f) (hg : Tws w g) : Tws w (joinsT f g) := fun x hx => by
  obtain ⟨y, hy, hx2⟩ := List.mem_flatMap.1 hx
  obtain ⟨z, hz, rfl⟩ := List.mem_map.1 hx2
  exact (hf y hy).join (hg z hz)
theorem joinsT_len (f g : List Tm) : (joinsT f g).length = f.length * g.length := by unfold joinsT; exact flat_len g.length _ (fun x => by simp) f
theorem Tws.fit {w : Nat} {l : List Tm} (h : Tws w l) : fitT l = true := by
  cases l with
  | nil => rfl
  | cons t r =>
    unfold fitT fitW
    rw [List.all_eq_true]
    intro x hx
    have h1 := h x hx; have h2 := h t List.mem_cons_self
    rw [Bool.and_eq_true]
    exact ⟨h1.2, decide_eq_true (by rw [h1.1]; exact h2.1.symm)⟩
theorem Tws.times {w : Nat} {l : List Tm} (h : Tws w l) (hl : l.length ≤ 200) : timesE l = 0 := by unfold timesE; rw [if_neg (by omega), if_pos h.fit]
theorem Tws.front {w : Nat} {f g m : List Tm} (hf : Tws w f) (hg : Tws w g) (hm : Tws w m) (h1 : f.length ≤ 200) (h2 : g.length ≤ 200) (h3 : m.length ≤ 200) (e1 : f = firstsT f) (e2 : g = firstsT g) : frontE f g m = 0 := by
  unfold frontE
  rw [if_neg (by omega), if_pos ((hf.app hg).app hm).fit, if_pos ⟨e1, e2⟩]
theorem firsts_self {w : Nat} {l : List Tm} (h : Wid w l) : firstsT l = firstsT (firstsT l) := (fr_firsts h).firsts.symm
theorem firsts_nil : ([] : List Tm) = firstsT [] := rfl
theorem lessB_tw {w : Nat} {a b : Tm} (ha : Tw w a) (hb : Tw w b) : lessB a b = tle a b := by
  have h : fitT [a, b] = true := Tws.fit (w := w) fun x hx => by
    simp only [List.mem_cons, List.not_mem_nil, or_false] at hx
    rcases hx with rfl | rfl
    · exact ha
    · exact hb
  unfold lessB lessS
  rw [if_pos h]; simp
theorem meetS_tw {w : Nat} {a b : Tm} (ha : Tw w a) (hb : Tw w b) : meetS a b = (tmeet a b, 0) := by
  have h : fitT [a, b] = true := Tws.fit (w := w) fun x hx => by
    simp only [List.mem_cons, List.not_mem_nil, or_false] at hx
    rcases hx with rfl | rfl
    · exact ha
    · exact hb
  unfold meetS; rw [if_pos h]
theorem joinS_tw {w : Nat} {a b : Tm} (ha : Tw w a) (hb : Tw w b) : joinS a b = (tjoin a b, 0) := by
  have h : fitT [a, b] = true := Tws.fit (w := w) fun x hx => by
    simp only [List.mem_cons, List.not_mem_nil, or_false] at hx
    rcases hx with rfl | rfl
    · exact ha
    · exact hb
  unfold joinS; rw [if_pos h]
theorem firstsS_tw {w : Nat} {l : List Tm} (h : Tws w l) (hl : l.length ≤ 200) : firstsS l = (firstsT l, 0) := by unfold firstsS; rw [if_pos (h.times hl)]
theorem lastsS_tw {w : Nat} {l : List Tm} (h : Tws w l) (hl : l.length ≤ 200) : lastsS l = (lastsT l, 0) := by unfold lastsS; rw [if_pos (h.times hl)]
theorem beyondS_tw {w : Nat} {f : List Tm} {t : Tm} (hf : Tws w f) (ht : Tw w t) (hl : f.length ≤ 200) (e : f = firstsT f) : beyondS f t = (pastT f t, 0) := by unfold beyondS; rw [if_pos (hf.front (Tws.nil w) (Tws.one ht) hl (by simp) (by simp) e firsts_nil)]
theorem seenS_tw {w : Nat} {f : List Tm} {t : Tm} (hf : Tws w f) (ht : Tw w t) (hl : f.length ≤ 200) (e : f = firstsT f) (hn : f ≠ []) : seenS f t = (standsT f t, 0) := by unfold seenS; rw [if_pos (hf.front (Tws.nil w) (Tws.one ht) hl (by simp) (by simp) e firsts_nil), if_neg hn]
theorem aheadS_tw {w : Nat} {f g : List Tm} (hf : Tws w f) (hg : Tws w g) (hl : f.length ≤ 200) (hl2 : g.length ≤ 200) (e : f = firstsT f) (e2 : g = firstsT g) : aheadS f g = (aheadT f g, 0) := by unfold aheadS; rw [if_pos (hf.front hg (Tws.nil w) hl hl2 (by simp) e e2)]
theorem eitherS_tw {w : Nat} {f g : List Tm} (hf : Tws w f) (hg : Tws w g) (hl : f.length ≤ 200) (hl2 : g.length ≤ 200) (e : f = firstsT f) (e2 : g = firstsT g) : eitherS f g = (firstsT (f ++ g), 0) := by unfold eitherS; rw [if_pos (hf.front hg (Tws.nil w) hl hl2 (by simp) e e2)]
theorem bothS_tw {w : Nat} {f g : List Tm} (hf : Tws w f) (hg : Tws w g) (hl : f.length ≤ 200) (hl2 : g.length ≤ 200) (e : f = firstsT f) (e2 : g = firstsT g) : bothS f g = (firstsT (joinsT f g), 0) := by unfold bothS; rw [if_pos (hf.front hg (Tws.nil w) hl hl2 (by simp) e e2)]
theorem past_joins {w : Nat} {f g : List Tm} (hf : Wid w f) (hg : Wid w g) {t : Tm} (ht : t.length = w) : pastT (joinsT f g) t = (pastT f t && pastT g t) := by
  rw [Bool.eq_iff_iff, Bool.and_eq_true, pastT_iff, pastT_iff, pastT_iff]
  constructor
  · rintro ⟨o, ho, hl⟩
    obtain ⟨y, hy, hx2⟩ := List.mem_flatMap.1 ho
    obtain ⟨z, hz, rfl⟩ := List.mem_map.1 hx2
    have h := (join_le ((hf y hy).trans (hg z hz).symm) ((hg z hz).trans ht.symm)).1 hl
    exact ⟨⟨y, hy, h.1⟩, ⟨z, hz, h.2⟩⟩
  · rintro ⟨⟨y, hy, h1⟩, ⟨z, hz, h2⟩⟩
    exact ⟨tjoin y z, List.mem_flatMap.2 ⟨y, hy, List.mem_map.2 ⟨z, hz, rfl⟩⟩, (join_le ((hf y hy).trans (hg z hz).symm) ((hg z hz).trans ht.symm)).2 ⟨h1, h2⟩⟩
theorem past_app (f g : List Tm) (t : Tm) : pastT (f ++ g) t = (pastT f t || pastT g t) := by unfold pastT; rw [List.any_append]
theorem past_self {f : List Tm} {t : Tm} (h : t ∈ f) : pastT f t = true := pastT_iff.2 ⟨t, h, tle_refl t⟩
theorem wid_joins {w : Nat} {f g : List Tm} (hf : Wid w f) (hg : Wid w g) : Wid w (joinsT f g) := fun x hx => by
  obtain ⟨y, hy, hx2⟩ := List.mem_flatMap.1 hx
  obtain ⟨z, hz, rfl⟩ := List.mem_map.1 hx2
  rw [tjoin_len ((hf y hy).trans (hg z hz).symm), hf y hy]
/-- The laws of two frontiers. -/
theorem absorb {w : Nat} {f g : List Tm} (hf : Fr w f) (hg : Fr w g) : firstsT (joinsT f (firstsT (f ++ g))) = f := by
  have hw : Wid w (f ++ g) := fun x hx => (List.mem_append.1 hx).elim (hf.wid x) (hg.wid x)
  have he := fr_firsts hw
  have hj := wid_joins hf.wid he.wid
  refine (fr_firsts hj).ext hf (fun t ht => ?_) (fun t ht => ?_)
  · have h1 := past_self ht
    have hl := (fr_firsts hj).wid t ht
    rw [past_firsts hj hl, past_joins hf.wid he.wid hl, Bool.and_eq_true] at h1
    exact h1.1
  · have hl := hf.wid t ht
    rw [past_firsts hj hl, past_joins hf.wid he.wid hl, past_firsts hw hl, past_app, past_self ht]; rfl
theorem ahead_either {w : Nat} {f g : List Tm} (hf : Fr w f) (hg : Fr w g) : aheadT f g = decide (firstsT (f ++ g) = f) := by
  have hw : Wid w (f ++ g) := fun x hx => (List.mem_append.1 hx).elim (hf.wid x) (hg.wid x)
  rw [Bool.eq_iff_iff, decide_eq_true_eq]
  unfold aheadT
  rw [List.all_eq_true]
  constructor
  · intro h
    refine (fr_firsts hw).ext hf (fun t ht => ?_) (fun t ht => ?_)
    · rcases List.mem_append.1 (mem_outT.1 ht).1 with h1 | h1
      · exact past_self h1
      · exact h t h1
    · rw [past_firsts hw (hf.wid t ht), past_app, past_self ht]; rfl
  · intro e t ht
    have hl := hg.wid t ht
    have h1 : pastT (firstsT (f ++ g)) t = true := by rw [past_firsts hw hl, past_app, past_self ht, Bool.or_true]
    rw [e] at h1; exact h1
theorem ahead_both {w : Nat} {f g : List Tm} (hf : Fr w f) (hg : Fr w g) : aheadT f g = decide (firstsT (joinsT f g) = g) := by
  have hj := wid_joins hf.wid hg.wid
  rw [Bool.eq_iff_iff, decide_eq_true_eq]
  unfold aheadT
  rw [List.all_eq_true]
  constructor
  · intro h
    refine (fr_firsts hj).ext hg (fun t ht => ?_) (fun t ht => ?_)
    · have h1 := past_self ht
      have hl := (fr_firsts hj).wid t ht
      rw [past_firsts hj hl, past_joins hf.wid hg.wid hl, Bool.and_eq_true] at h1
      exact h1.2
    · have hl := hg.wid t ht
      rw [past_firsts hj hl, past_joins hf.wid hg.wid hl, past_self ht, h t ht]; rfl
  · intro e t ht
    have hl := hg.wid t ht
    have h1 : pastT (firstsT (joinsT f g)) t = true := by rw [e]; exact past_self ht
    rw [past_firsts hj hl, past_joins hf.wid hg.wid hl, Bool.and_eq_true] at h1
    exact h1.1
/-! Where one stands. -/
theorem le_stands {w : Nat} {f : List Tm} (hn : f ≠ []) (hf : Wid w f) {t c : Tm} (ht : t.length = w) (hc : c.length = w) : tle c (standsT f t) = true ↔ ∀ o ∈ f, tle c (tjoin o t) = true := by
  cases f with
  | nil => exact absurd rfl hn
  | cons o r =>
    have ho := hf o List.mem_cons_self
    have hr : Wid w r := fun y hy => hf y (List.mem_cons_of_mem _ hy)
    have e : standsT (o :: r) t = (r.map fun x => tjoin x t).foldl tmeet (tjoin o t) := by
      show r.foldl (fun s o => tmeet s (tjoin o t)) (tjoin o t) = _
      rw [List.foldl_map]
    rw [e, le_fold hc _ _ (fun y hy => by obtain ⟨z, hz, rfl⟩ := List.mem_map.1 hy; rw [tjoin_len ((hr z hz).trans ht.symm), hr z hz]) (by rw [tjoin_len (ho.trans ht.symm), ho])]
    simp
theorem stands_le {w : Nat} {f : List Tm} (hn : f ≠ []) (hf : Wid w f) {t c : Tm} (ht : t.length = w) (hc : c.length = w) : tle (standsT f t) c = true ↔ tle (meetT f) c = true ∧ tle t c = true := by
  rw [stands_eq hn, join_le ((meetT_len hn hf).trans ht.symm) (ht.trans hc.symm)]
theorem meetT_le {w : Nat} {f : List Tm} (hn : f ≠ []) (hf : Wid w f) {o : Tm} (ho : o ∈ f) : tle (meetT f) o = true := (le_meetT hn hf (meetT_len hn hf)).1 (tle_refl _) o ho
end Go.Proofs.YteimjjpigohnhaaGreat
/- Lists of times that the laws make and compare. -/
namespace Go.Proofs.YteimjjpigohnhaaGreat
open Go.Sl
variable {S : Nat → Prop} {w0 : World} {η : Heap}
theorem times_ll {a : Option Addr} {l : List Int} {c wide most : Nat} (hx : Row S w0 [] a (ints l)) (hl : l.length < 2 ^ 63) (hw : ∀ x ∈ l, W64 x) (hwd : wide < 1000) (hm : most < 1000) : Rt Tryz.prog 58 [.slice a l.length c, .int .i64 (wide : Int), .int .i64 (most : Int)].toArray S w0 η (fun v η' => ∃ a' cap ps segs, v = .slice a' ps.length cap ∧ tx ps = tmsI l wide most ∧ LL S w0 segs a' ps ∧ η' = segs ++ η) := by
  refine (times_fn (c := c) hx hl hw hwd hm).mono ?_
  rintro v η' ⟨a', cap, outs, og, rfl, hol, hto, rfl⟩
  exact ⟨a', cap, outs.map (·.1), og :: outs.reverse.map (·.2), by rw [List.length_map], by rw [← hto]; simp [tx, List.map_map, Function.comp_def], hol.ll List.mem_cons_self (fun t ht => List.mem_cons_of_mem _ (List.mem_map_of_mem (List.mem_reverse.2 ht))), rfl⟩
theorem among_true {a b : Option Addr} {ps qs : List HL} {c d : Nat} (hx : LL S w0 η a ps) (hy : LL S w0 η b qs) (hl : ps.length < 2 ^ 63) (hl2 : qs.length < 2 ^ 63) (hlx : ∀ p ∈ ps, p.2.1.length < 2 ^ 63) (hs : ∀ x ∈ tx ps, x ∈ tx qs) : Rt Tryz.prog 51 [.slice a ps.length c, .slice b qs.length d].toArray S w0 η (fun v η' => v = .bool true ∧ η' = η) := by
  have h := among_fn (c := c) (d := d) hx hy hl hl2 hlx
  have e : ((tx ps).all fun x => (tx qs).any fun y => decide (x = y)) = true := by
    rw [List.all_eq_true]
    intro x hx
    rw [List.any_eq_true]
    exact ⟨x, hs x hx, decide_eq_true rfl⟩
  rw [e] at h; exact h
theorem apart_true {a : Option Addr} {ps : List HL} {c w : Nat} (hx : LL S w0 η a ps) (hl : ps.length < 65536) (hw : ∀ p ∈ ps, p.2.1.length = w) (hw4 : w ≤ 4) (he : tx ps = firstsT (tx ps)) : Rt Tryz.prog 52 [.slice a ps.length c].toArray S w0 η (fun v η' => v = .bool true ∧ ∃ segs, η' = segs ++ η) := by
  have h := apart_fn (c := c) hx hl hw hw4
  rw [decide_eq_true he] at h; exact h
theorem tx_length {ps : List HL} {L : List Tm} (h : tx ps = L) : ps.length = L.length := by rw [← h, tx_len]
theorem tx_wid {ps : List HL} {L : List Tm} {w : Nat} (h : tx ps = L) (hw : Wid w L) : ∀ p ∈ ps, p.2.1.length = w := wid_tx (h ▸ hw)
theorem Tws.good {w : Nat} {L : List Tm} (h : Tws w L) (hw4 : w ≤ 4) (hl : L.length ≤ 200) : GoodL L := ⟨by omega, fun x hx => by rw [(h x hx).1]; exact hw4⟩
theorem wide_nat (z : Int) : ∃ w : Nat, 1 + turnI z 4 = (w : Int) ∧ 1 ≤ w ∧ w ≤ 4 := by
  have h := turnI_range z (m := 4) (by decide)
  exact ⟨(1 + turnI z 4).toNat, by omega, by omega, by omega⟩
end Go.Proofs.YteimjjpigohnhaaGreat
/- Meets and joins of three times. -/
namespace Go.Proofs.YteimjjpigohnhaaGreat
open Go.Sl
variable {S : Nat → Prop} {w0 : World} {η : Heap}
theorem meet_assoc : ∀ a b c : Tm, tmeet (tmeet a b) c = tmeet a (tmeet b c)
  | [], _, _ => by simp [tmeet]
  | _ :: _, [], _ => by simp [tmeet]
  | _ :: _, _ :: _, [] => by simp [tmeet]
  | x :: a, y :: b, z :: c => by
    have := meet_assoc a b c
    simp only [tmeet, List.zipWith_cons_cons] at this ⊢
    rw [this]; congr 1; omega
theorem join_assoc : ∀ a b c : Tm, tjoin (tjoin a b) c = tjoin a (tjoin b c)
  | [], _, _ => by simp [tjoin]
  | _ :: _, [], _ => by simp [tjoin]
  | _ :: _, _ :: _, [] => by simp [tjoin]
  | x :: a, y :: b, z :: c => by
    have := join_assoc a b c
    simp only [tjoin, List.zipWith_cons_cons] at this ⊢
    rw [this]; congr 1; omega
theorem join_dist : ∀ a b c : Tm, tjoin a (tmeet b c) = tmeet (tjoin a b) (tjoin a c)
  | [], _, _ => by simp [tmeet, tjoin]
  | _ :: _, [], _ => by simp [tmeet, tjoin]
  | _ :: _, _ :: _, [] => by simp [tmeet, tjoin]
  | x :: a, y :: b, z :: c => by
    have := join_dist a b c
    simp only [tmeet, tjoin, List.zipWith_cons_cons] at this ⊢
    rw [this]; congr 1; omega
theorem meet_idem : ∀ a : Tm, tmeet a a = a
  | [] => rfl
  | x :: a => by
    have := meet_idem a
    simp only [tmeet, List.zipWith_cons_cons] at this ⊢
    rw [this]; congr 1; omega
theorem join_idem : ∀ a : Tm, tjoin a a = a
  | [] => rfl
  | x :: a => by
    have := join_idem a
    simp only [tjoin, List.zipWith_cons_cons] at this ⊢
    rw [this]; congr 1; omega
theorem meet_absorb : ∀ {a b : Tm}, a.length = b.length → tmeet a (tjoin a b) = a
  | [], [], _ => rfl
  | [], _ :: _, h => by simp at h
  | _ :: _, [], h => by simp at h
  | x :: a, y :: b, h => by
    have := meet_absorb (a := a) (b := b) (by simpa using h)
    simp only [tmeet, tjoin, List.zipWith_cons_cons] at this ⊢
    rw [this]; congr 1; omega
theorem join_absorb : ∀ {a b : Tm}, a.length = b.length → tjoin a (tmeet a b) = a
  | [], [], _ => rfl
  | [], _ :: _, h => by simp at h
  | _ :: _, [], h => by simp at h
  | x :: a, y :: b, h => by
    have := join_absorb (a := a) (b := b) (by simpa using h)
    simp only [tmeet, tjoin, List.zipWith_cons_cons] at this ⊢
    rw [this]; congr 1; omega
theorem tle_meet : ∀ {a b : Tm}, a.length = b.length → tle a b = decide (tmeet a b = a)
  | [], [], _ => rfl
  | [], _ :: _, h => by simp at h
  | _ :: _, [], h => by simp at h
  | x :: a, y :: b, h => by
    have := tle_meet (a := a) (b := b) (by simpa using h)
    rw [Bool.eq_iff_iff, decide_eq_true_eq] at this ⊢
    simp only [tle, tmeet, List.zipWith_cons_cons, Bool.and_eq_true, decide_eq_true_eq, List.cons.injEq] at this ⊢
    rw [this]
    constructor
    · rintro ⟨h1, h2⟩; exact ⟨by omega, h2⟩
    · rintro ⟨h1, h2⟩; exact ⟨by omega, h2⟩
theorem tle_join : ∀ {a b : Tm}, a.length = b.length → tle a b = decide (tjoin a b = b)
  | [], [], _ => rfl
  | [], _ :: _, h => by simp at h
  | _ :: _, [], h => by simp at h
  | x :: a, y :: b, h => by
    have := tle_join (a := a) (b := b) (by simpa using h)
    rw [Bool.eq_iff_iff, decide_eq_true_eq] at this ⊢
    simp only [tle, tjoin, List.zipWith_cons_cons, Bool.and_eq_true, decide_eq_true_eq, List.cons.injEq] at this ⊢
    rw [this]
    constructor
    · rintro ⟨h1, h2⟩; exact ⟨by omega, h2⟩
    · rintro ⟨h1, h2⟩; exact ⟨by omega, h2⟩
theorem tle_back {a b : Tm} (hl : a.length = b.length) (h : tle a b = true) : tle b a = decide (a = b) := by
  rw [Bool.eq_iff_iff, decide_eq_true_eq]
  exact ⟨fun h2 => tle_anti hl h h2, fun h2 => by rw [h2]; exact tle_refl _⟩
/-! The law's functions at times that fit. -/
theorem Tw.l4 {w : Nat} {t : Tm} (h : Tw w t) : w ≤ 4 := by have := (isT_iff.1 h.2).1.2; rw [h.1] at this; exact this
theorem meet_tw {a b : Option Addr} {xs ys : Tm} {c d w : Nat} (hx : Row S w0 [] a (ints xs)) (hy : Row S w0 [] b (ints ys)) (h1 : Tw w xs) (h2 : Tw w ys) : Rt Tryz.prog 56 [.slice a w c, .slice b w d].toArray S w0 η (fun v η' => ∃ a' cap segs, v = .slice a' w cap ∧ Row S w0 segs a' (ints (tmeet xs ys)) ∧ η' = segs ++ η) := by
  have l := h1.l4
  have h := lawmeet_fn (η := η) (c := c) (d := d) hx hy (by have := h1.1; omega) (by have := h2.1; omega)
  rw [meetS_tw h1 h2, h1.1, h2.1] at h
  have e : (tmeet xs ys).length = w := (h1.meet h2).1
  simpa only [e] using h
theorem join_tw {a b : Option Addr} {xs ys : Tm} {c d w : Nat} (hx : Row S w0 [] a (ints xs)) (hy : Row S w0 [] b (ints ys)) (h1 : Tw w xs) (h2 : Tw w ys) : Rt Tryz.prog 57 [.slice a w c, .slice b w d].toArray S w0 η (fun v η' => ∃ a' cap segs, v = .slice a' w cap ∧ Row S w0 segs a' (ints (tjoin xs ys)) ∧ η' = segs ++ η) := by
  have l := h1.l4
  have h := lawjoin_fn (η := η) (c := c) (d := d) hx hy (by have := h1.1; omega) (by have := h2.1; omega)
  rw [joinS_tw h1 h2, h1.1, h2.1] at h
  have e : (tjoin xs ys).length = w := (h1.join h2).1
  simpa only [e] using h
theorem less_tw {a b : Option Addr} {xs ys : Tm} {c d w : Nat} (hx : Row S w0 [] a (ints xs)) (hy : Row S w0 [] b (ints ys)) (h1 : Tw w xs) (h2 : Tw w ys) : Rt Tryz.prog 19 [.slice a w c, .slice b w d].toArray S w0 η (fun v η' => v = .bool (tle xs ys) ∧ ∃ segs, η' = segs ++ η) := by
  have l := h1.l4
  have h := lawless_fn (η := η) (c := c) (d := d) hx hy (by have := h1.1; omega) (by have := h2.1; omega)
  rw [lessB_tw h1 h2, h1.1, h2.1] at h
  exact h
theorem Eq_tw {a b : Option Addr} {xs ys : Tm} {c d w : Nat} (hx : Row S w0 η a (ints xs)) (hy : Row S w0 η b (ints ys)) (h1 : xs.length = w) (h2 : ys.length = w) (hw : w ≤ 4) : Rt Tryz.prog 18 [.slice a w c, .slice b w d].toArray S w0 η (fun v η' => v = .bool (decide (xs = ys)) ∧ η' = η) := by
  have h := Equal_fn (ca := c) (cb := d) hx hy (by omega)
  rw [h1, h2] at h; exact h
theorem EqT_tw {a b : Option Addr} {xs ys : Tm} {c d w : Nat} (hx : Row S w0 η a (ints xs)) (hy : Row S w0 η b (ints ys)) (h1 : xs.length = w) (h2 : ys.length = w) (hw : w ≤ 4) (he : xs = ys) : Rt Tryz.prog 18 [.slice a w c, .slice b w d].toArray S w0 η (fun v η' => v = .bool true ∧ η' = η) := by
  have h := Eq_tw (c := c) (d := d) hx hy h1 h2 hw
  rw [decide_eq_true he] at h; exact h
end Go.Proofs.YteimjjpigohnhaaGreat
/- Boxes, by the specification. -/
namespace Go.Proofs.YteimjjpigohnhaaGreat
open Go.Sl
variable {S : Nat → Prop} {w0 : World} {η : Heap}
theorem min_step {p m : Int} (hp : 1 ≤ p) (hm : 1 ≤ m) : min (min p 5000 * m) 5000 = min (p * m) 5000 := by
 by_cases h : p ≤ 5000
 ·rw [show min p 5000 = p by omega]
 ·rw [show min p 5000 = 5000 by omega]
  have h1 := Int.mul_le_mul (show (5000 : Int) ≤ p by omega) (Int.le_refl m) (by omega) (by omega)
  have h2 := Int.mul_le_mul (show (5000 : Int) ≤ 5000 by omega) hm (by omega) (by omega)
  omega
set_option maxHeartbeats 2000000 in
theorem cells_ref {a : Option Addr} {l : List Int} {c : Nat} (hx : Row S w0 η a (ints l)) (hl : l.length < 2 ^ 63) :
  Rt Tryz.prog 107 [.slice a l.length c].toArray S w0 η (fun v η' => v = .int .i64 (cellsS l) ∧ η' = η) := by
 have hF := open_wide
 refine Rt.of (fn := Tryz.f107) Tryz.func107 rfl rfl ?_
 refine T.seq ?_
 refine T.region ?_
 refine TL.assign hF rfl rfl ?_
 refine TL.nil ?_
 refine TQ.then_n ?_
 refine T.seq ?_
 refine T.seq ?_
 refine T.region ?_
 refine TL.move hF rfl rfl ?_
 refine TL.len hF rfl rfl ?_
 refine TL.callV hF (Lies_fn _ _ _) rfl rfl ?_
 refine TL.not hF rfl rfl ?_
 refine TL.nil ?_
 refine TQ.then_n ?_
 refine T.cond _ rfl (fun ht8 => ?_) (fun ht8 => ?_)
 ·refine T.seq ?_
  refine T.region ?_
  refine TL.assign hF rfl rfl ?_
  refine TL.nil ?_
  refine TQ.then_n ?_
  refine T.ret ?_
  refine TQ.then_r ?_
  refine TQ.rets [2] _ rfl rfl rfl ?_
  exact ⟨by rw [cellsS_bad (fun q => by simp at ht8; omega)]; rfl, rfl⟩
 ·refine T.skip ?_
  refine TQ.then_n ?_
  refine T.seq ?_
  refine T.region ?_
  refine TL.assign hF rfl rfl ?_
  refine TL.nil ?_
  refine TQ.then_n ?_
  refine T.seq ?_
  refine T.seq ?_
  refine T.region ?_
  refine TL.assign hF rfl rfl ?_
  refine TL.nil ?_
  refine TQ.then_n ?_
  refine T.block ?_
  have hlen : 1 ≤ l.length ∧ l.length ≤ 4 := by simp at ht8; omega
  refine T.loop (ι := Nat) (fun k => k ≤ l.length ∧ (l.take k).all szOk = true) (fun k => [(0, .slice a l.length c), (2, .int .i64 0), (3, .int .i64 (min (prodI (l.take k)) 5000)), (4, .int .i64 (k : Int))]) (fun _ => η) (fun k => l.length - k) 0 ⟨Nat.zero_le _, by simp⟩ ⟨rfl, rfl, rfl, rfl, trivial⟩ rfl ?_
  rintro k ⟨hk, hall⟩
  have hpp := prodI_pos hall
  refine T.seq ?_
  refine T.seq ?_
  refine T.region ?_
  refine TL.move hF rfl rfl ?_
  refine TL.move hF rfl rfl ?_
  refine TL.len hF rfl rfl ?_
  refine TL.bin hF rfl rfl rfl rfl ?_
  refine TL.nil ?_
  refine TQ.then_n ?_
  first | refine T.cond_d rfl (fun ht12 => ?_) (fun ht12 => ?_) | refine T.cond _ rfl (fun ht12 => ?_) (fun ht12 => ?_)
  ·refine T.skip ?_
   refine TQ.then_n ?_
   refine T.seq ?_
   refine T.block ?_
   refine T.seq ?_
   refine T.seq ?_
   refine T.region ?_
   refine TL.move hF rfl rfl ?_
   refine TL.move hF rfl rfl ?_
   refine TL.indexAddr hF rfl rfl (hx.adi (i := k) (by simp; omega)) (by omega) (by omega) rfl ?_
   refine TL.load hF rfl (hx.int (i := k) (by omega)) rfl ?_
   refine TL.callV hF (Lies_fn _ _ _) rfl rfl ?_
   refine TL.not hF rfl rfl ?_
   refine TL.nil ?_
   refine TQ.then_n ?_
   refine T.cond _ rfl (fun ht20 => ?_) (fun ht20 => ?_)
   ·refine T.seq ?_
    refine T.region ?_
    refine TL.assign hF rfl rfl ?_
    refine TL.nil ?_
    refine TQ.then_n ?_
    refine T.ret ?_
    refine TQ.then_r ?_
    refine TQ.block_r ?_
    refine TQ.then_r ?_
    refine TQ.then_r ?_
    refine TQ.block_r ?_
    refine TQ.then_r ?_
    refine TQ.rets [2] _ rfl rfl rfl ?_
    exact ⟨by rw [cellsS_bad (fun q => by
      have h1 := List.all_eq_true.1 q.2.1 (l[k]'(by omega)) (List.getElem_mem _)
      unfold szOk at h1; rw [h1] at ht20; cases ht20)]; rfl, rfl⟩
   ·refine T.skip ?_
    refine TQ.then_n ?_
    refine T.region ?_
    refine TL.move hF rfl rfl ?_
    refine TL.move hF rfl rfl ?_
    refine TL.move hF rfl rfl ?_
    have hkl : k < l.length := by omega
    have hsz : szOk l[k] = true := by unfold szOk; simpa using ht20
    have hs2 := szOk_iff.1 hsz
    refine TL.indexAddr hF rfl rfl (hx.adi (i := k) (by simp; omega)) (by omega) (by omega) rfl ?_
    refine TL.load hF rfl (hx.int (i := k) (by omega)) rfl ?_
    have hmm := mul_4096 (a := min (prodI (l.take k)) 5000) (b := l[k]) (by omega) (by omega) hs2.1 hs2.2
    refine TL.mul hF rfl rfl (by omega) (by omega) rfl ?_
    refine TL.min2 hF rfl rfl rfl ?_
    refine TL.assign hF rfl rfl ?_
    refine TL.nil ?_
    refine TQ.block_n ?_
    refine TQ.then_n ?_
    refine T.region ?_
    refine TL.move hF rfl rfl ?_
    refine TL.add hF rfl rfl (by omega) (by omega) rfl ?_
    refine TL.assign hF rfl rfl ?_
    refine TL.nil ?_
    refine TQ.round (k + 1) ⟨by omega, by rw [all_take_succ hkl, hall, hsz]; rfl⟩ (by omega) ⟨rfl, rfl, congrArg (fun z => some (Value.int .i64 z)) ?_, rfl, trivial⟩ rfl
    rw [prodI_take hkl]; exact min_step hpp hs2.1
  ·refine T.exit ?_
   refine TQ.then_x ?_
   refine TQ.then_x ?_
   refine TQ.block_x ?_
   refine TQ.then_n ?_
   refine T.seq ?_
   refine T.seq ?_
   refine T.region ?_
   refine TL.move hF rfl rfl ?_
   refine TL.bin hF rfl rfl rfl rfl ?_
   refine TL.nil ?_
   refine TQ.then_n ?_
   first | refine T.cond_d rfl (fun ht29 => ?_) (fun ht29 => ?_) | refine T.cond _ rfl (fun ht29 => ?_) (fun ht29 => ?_)
   ·refine T.seq ?_
    refine T.region ?_
    refine TL.assign hF rfl rfl ?_
    refine TL.nil ?_
    refine TQ.then_n ?_
    refine T.ret ?_
    refine TQ.then_r ?_
    refine TQ.rets [2] _ rfl rfl rfl ?_
    have e : l.take k = l := List.take_of_length_le (by omega)
    have e3 : prodI (l.take k) = prodI l := by rw [e]
    exact ⟨by rw [cellsS_bad (fun q => by omega)]; rfl, rfl⟩
   ·refine T.skip ?_
    refine TQ.then_n ?_
    refine T.seq ?_
    refine T.region ?_
    refine TL.move hF rfl rfl ?_
    refine TL.assign hF rfl rfl ?_
    refine TL.nil ?_
    refine TQ.then_n ?_
    refine T.ret ?_
    refine TQ.rets [2] _ rfl rfl rfl ?_
    have e : l.take k = l := List.take_of_length_le (by omega)
    have e3 : prodI (l.take k) = prodI l := by rw [e]
    rw [e] at hall
    have e2 : cellsS l = prodI l := by unfold cellsS; rw [if_pos ⟨hlen, hall, by omega⟩]
    exact ⟨by rw [e2]; show Value.int .i64 (min (prodI (l.take k)) 5000) = _; rw [show min (prodI (l.take k)) 5000 = prodI l by omega], rfl⟩
end Go.Proofs.YteimjjpigohnhaaGreat
/- The time of a cell, by the specification and by the law. -/
namespace Go.Proofs.YteimjjpigohnhaaGreat
open Go.Sl
variable {S : Nat → Prop} {w0 : World} {η : Heap}
/-- The time of a cell. -/
def tmZ (sizes : List Int) (i : Nat) : Tm := (tmN (nsz sizes) i).map fun (n : Nat) => (n : Int)
theorem tmZ_len (sizes : List Int) (i : Nat) : (tmZ sizes i).length = sizes.length := by simp [tmZ, tmN_len, nsz]
theorem tmZ_get : ∀ {sizes : List Int} {i j : Nat} (h : j < sizes.length), (tmZ sizes i).getD j 0 = (((i / prodN (nsz (sizes.drop (j + 1)))) % (sizes[j]).toNat : Nat) : Int)
 | x :: l, i, 0, _ => rfl
 | x :: l, i, j + 1, h => by
  have := tmZ_get (sizes := l) (i := i) (j := j) (by simpa using h)
  simp only [List.drop_succ_cons, List.getElem_cons_succ]
  rw [← this]; rfl
theorem tle_tmZ : ∀ (a b : List Nat), tle (a.map fun (n : Nat) => (n : Int)) (b.map fun (n : Nat) => (n : Int)) = leN a b
 | [], _ => by simp [tle, leN]
 | _ :: _, [] => by simp [tle, leN]
 | x :: a, y :: b => by
  simp only [List.map_cons, tle, leN]
  rw [tle_tmZ a b]
  congr 1
  rw [Bool.eq_iff_iff, decide_eq_true_eq, decide_eq_true_eq]; omega
def tmF (sizes : List Int) (i k j : Nat) : Int := if k ≤ j then (tmZ sizes i).getD j 0 else 0
theorem cell_step {sizes : List Int} (_h : sizes.all szOk = true) {i j : Nat} (hj : j < sizes.length) : i / prodN (nsz (sizes.drop j)) = (i / prodN (nsz (sizes.drop (j + 1)))) / (sizes[j]).toNat := by
 rw [nsz_drop hj]
 show i / ((sizes[j]).toNat * prodN (nsz (sizes.drop (j + 1)))) = _
 rw [Nat.div_div_eq_div_mul, Nat.mul_comm]
set_option maxHeartbeats 2000000 in
theorem lawcells_fn {a : Option Addr} {sizes : List Int} {c i : Nat} (hx : Row S w0 η a (ints sizes)) (hl : sizes.length ≤ 4) (hok : sizes.all szOk = true) (hi : i < 9223372036854775807) :
  Rt Tryz.prog 20 [.slice a sizes.length c, .int .i64 (i : Int)].toArray S w0 η (fun v η' => ∃ g, v = .slice (some ⟨g, 0, none⟩) sizes.length sizes.length ∧ η' = iseg g sizes.length (fun j => (tmZ sizes i).getD j 0) :: η) := by
 have hF := open_wide
 refine Rt.of (fn := Tryz.f20) Tryz.func20 rfl rfl ?_
 refine T.seq ?_
 refine T.region ?_
 refine TL.assign hF rfl rfl ?_
 refine TL.nil ?_
 refine TQ.then_n ?_
 refine T.seq ?_
 refine T.region ?_
 refine TL.move hF rfl rfl ?_
 refine TL.len hF rfl rfl ?_
 refine TL.makeSlice hF (k := sizes.length) rfl rfl rfl (by omega) (by omega) rfl (fun b9 => ?_)
 rw [intC_zero]
 refine TL.assign hF rfl rfl ?_
 refine TL.nil ?_
 refine TQ.then_n ?_
 refine T.seq ?_
 refine T.seq ?_
 refine T.region ?_
 refine TL.move hF rfl rfl ?_
 refine TL.len hF rfl rfl ?_
 refine TL.sub hF rfl rfl (by omega) (by omega) rfl ?_
 refine TL.assign hF rfl rfl ?_
 refine TL.nil ?_
 refine TQ.then_n ?_
 refine T.block ?_
 refine T.heap (iseg_congr (n := sizes.length) (b := b9) (g := tmF sizes i sizes.length) (fun j hj => by unfold tmF; rw [if_neg (by omega)])) ?_
 refine T.loop (ι := Nat) (fun k => k ≤ sizes.length) (fun k => [(0, .slice a sizes.length c), (1, .int .i64 ((i / prodN (nsz (sizes.drop k)) : Nat) : Int)), (5, .slice (some ⟨b9, 0, none⟩) sizes.length sizes.length), (6, .int .i64 ((k : Int) - 1))]) (fun k => iseg b9 sizes.length (tmF sizes i k) :: η) (fun k => k) sizes.length (Nat.le_refl _) ⟨rfl, by rw [List.drop_length]; show _ = some (Value.int .i64 ((i / 1 : Nat) : Int)); rw [Nat.div_one]; rfl, rfl, rfl, trivial⟩ rfl ?_
 intro k hk
 refine T.seq ?_
 refine T.seq ?_
 refine T.region ?_
 refine TL.move hF rfl rfl ?_
 refine TL.bin hF rfl rfl rfl rfl ?_
 refine TL.nil ?_
 refine TQ.then_n ?_
 first | refine T.cond_d rfl (fun ht14 => ?_) (fun ht14 => ?_) | refine T.cond _ rfl (fun ht14 => ?_) (fun ht14 => ?_)
 ·refine T.skip ?_
  refine TQ.then_n ?_
  refine T.seq ?_
  refine T.block ?_
  refine T.seq ?_
  refine T.region ?_
  refine TL.move hF rfl rfl ?_
  refine TL.move hF rfl rfl ?_
  refine TL.move hF rfl rfl ?_
  refine TL.move hF rfl rfl ?_
  refine TL.move hF rfl rfl ?_
  obtain ⟨j, rfl⟩ : ∃ j, k = j + 1 := ⟨k - 1, by omega⟩
  rw [show (((j + 1 : Nat) : Int) - 1) = (j : Int) by omega]
  have hjl : j < sizes.length := by omega
  have hs2 := szOk_iff.1 (List.all_eq_true.1 hok sizes[j] (List.getElem_mem hjl))
  obtain ⟨m, hme⟩ : ∃ m : Nat, sizes[j] = (m : Int) := ⟨(sizes[j]).toNat, by omega⟩
  have hm0 : 0 < m := by omega
  have hcs := cell_step hok (i := i) hjl
  have hmt : (sizes[j]).toNat = m := by omega
  rw [hmt] at hcs
  have hq : i / prodN (nsz (sizes.drop (j + 1))) ≤ i := Nat.div_le_self _ _
  have hget := tmZ_get (i := i) hjl
  rw [hmt] at hget
  generalize hqe : i / prodN (nsz (sizes.drop (j + 1))) = q at hcs hq hget ⊢
  refine TL.indexAddr hF rfl rfl (hx.adi (i := j) (by simp; omega)) (by omega) (by omega) rfl ?_
  refine TL.load hF rfl (v := .int .i64 (m : Int)) (by rw [← hme]; exact (hx.up upc).int (i := j) hjl) rfl ?_
  refine TL.remN hF (a := q) (b := m) rfl rfl hm0 rfl ?_
  refine TL.indexAddr hF rfl rfl ⟨_, rfl, rfl⟩ (by omega) (by omega) rfl ?_
  refine TL.storeI hF 0 rfl rfl rfl rfl (by simp [intC_len]; omega) ?_
  refine TL.nil ?_
  refine TQ.then_n ?_
  refine T.region ?_
  refine TL.move hF rfl rfl ?_
  refine TL.move hF rfl rfl ?_
  refine TL.move hF rfl rfl ?_
  refine TL.indexAddr hF rfl rfl (hx.adi (i := j) (by simp; omega)) (by omega) (by omega) rfl ?_
  refine TL.load hF rfl (v := .int .i64 (m : Int)) (by rw [← hme]; exact (hx.up upc).int (i := j) hjl) rfl ?_
  refine TL.quoN hF (a := q) (b := m) rfl rfl hm0 (wrap_nat (Nat.le_trans (Nat.div_le_self q m) (by omega))) rfl ?_
  refine TL.assign hF rfl rfl ?_
  refine TL.nil ?_
  refine TQ.block_n ?_
  refine TQ.then_n ?_
  refine T.region ?_
  refine TL.move hF rfl rfl ?_
  refine TL.sub hF rfl rfl (by omega) (by omega) rfl ?_
  refine TL.assign hF rfl rfl ?_
  refine TL.nil ?_
  refine TQ.round j (by omega) (by omega) ⟨rfl, ?_, rfl, rfl, trivial⟩ (iseg_set (j := j) (by simp) (fun x hx2 => ?_))
  ·show _ = some (Value.int .i64 ((i / prodN (nsz (sizes.drop j)) : Nat) : Int))
   rw [hcs]; rfl
  ·unfold tmF
   by_cases e : x = j
   ·subst e; rw [if_pos (by omega), if_pos rfl, hget]
   ·rw [if_neg e]
    by_cases h2 : j ≤ x
    ·rw [if_pos h2, if_pos (by omega)]
    ·rw [if_neg h2, if_neg (by omega)]
 ·refine T.exit ?_
  refine TQ.then_x ?_
  refine TQ.then_x ?_
  refine TQ.block_x ?_
  refine TQ.then_n ?_
  refine T.seq ?_
  refine T.region ?_
  refine TL.move hF rfl rfl ?_
  refine TL.assign hF rfl rfl ?_
  refine TL.nil ?_
  refine TQ.then_n ?_
  refine T.ret ?_
  refine TQ.rets [4] _ rfl rfl rfl ?_
  have hk0 : k = 0 := by omega
  subst hk0
  exact ⟨b9, rfl, iseg_congr fun j hj => by unfold tmF; rw [if_pos (Nat.zero_le _)]⟩
set_option maxHeartbeats 2000000 in
theorem Time_ref {a : Option Addr} {sizes : List Int} {c i : Nat} (hx : Row S w0 η a (ints sizes)) (hl : sizes.length ≤ 4) (hok : sizes.all szOk = true) (hi : i < 9223372036854775807) :
  Rt Tryz.prog 108 [.slice a sizes.length c, .int .i64 (i : Int)].toArray S w0 η (fun v η' => ∃ g, v = .slice (some ⟨g, 0, none⟩) sizes.length sizes.length ∧ η' = iseg g sizes.length (fun j => (tmZ sizes i).getD j 0) :: η) := by
 have hF := open_wide
 refine Rt.of (fn := Tryz.f108) Tryz.func108 rfl rfl ?_
 refine T.seq ?_
 refine T.region ?_
 refine TL.assign hF rfl rfl ?_
 refine TL.nil ?_
 refine TQ.then_n ?_
 refine T.seq ?_
 refine T.region ?_
 refine TL.move hF rfl rfl ?_
 refine TL.len hF rfl rfl ?_
 refine TL.makeSlice hF (k := sizes.length) rfl rfl rfl (by omega) (by omega) rfl (fun b9 => ?_)
 rw [intC_zero]
 refine TL.assign hF rfl rfl ?_
 refine TL.nil ?_
 refine TQ.then_n ?_
 refine T.seq ?_
 refine T.seq ?_
 refine T.region ?_
 refine TL.move hF rfl rfl ?_
 refine TL.len hF rfl rfl ?_
 refine TL.sub hF rfl rfl (by omega) (by omega) rfl ?_
 refine TL.assign hF rfl rfl ?_
 refine TL.nil ?_
 refine TQ.then_n ?_
 refine T.block ?_
 refine T.heap (iseg_congr (n := sizes.length) (b := b9) (g := tmF sizes i sizes.length) (fun j hj => by unfold tmF; rw [if_neg (by omega)])) ?_
 refine T.loop (ι := Nat) (fun k => k ≤ sizes.length) (fun k => [(0, .slice a sizes.length c), (1, .int .i64 ((i / prodN (nsz (sizes.drop k)) : Nat) : Int)), (5, .slice (some ⟨b9, 0, none⟩) sizes.length sizes.length), (6, .int .i64 ((k : Int) - 1))]) (fun k => iseg b9 sizes.length (tmF sizes i k) :: η) (fun k => k) sizes.length (Nat.le_refl _) ⟨rfl, by rw [List.drop_length]; show _ = some (Value.int .i64 ((i / 1 : Nat) : Int)); rw [Nat.div_one]; rfl, rfl, rfl, trivial⟩ rfl ?_
 intro k hk
 refine T.seq ?_
 refine T.seq ?_
 refine T.region ?_
 refine TL.move hF rfl rfl ?_
 refine TL.bin hF rfl rfl rfl rfl ?_
 refine TL.nil ?_
 refine TQ.then_n ?_
 first | refine T.cond_d rfl (fun ht14 => ?_) (fun ht14 => ?_) | refine T.cond _ rfl (fun ht14 => ?_) (fun ht14 => ?_)
 ·refine T.skip ?_
  refine TQ.then_n ?_
  refine T.seq ?_
  refine T.block ?_
  obtain ⟨j, rfl⟩ : ∃ j, k = j + 1 := ⟨k - 1, by omega⟩
  rw [show (((j + 1 : Nat) : Int) - 1) = (j : Int) by omega]
  have hjl : j < sizes.length := by omega
  have hs2 := szOk_iff.1 (List.all_eq_true.1 hok sizes[j] (List.getElem_mem hjl))
  obtain ⟨m, hme⟩ : ∃ m : Nat, sizes[j] = (m : Int) := ⟨(sizes[j]).toNat, by omega⟩
  have hm0 : 0 < m := by omega
  have hcs := cell_step hok (i := i) hjl
  have hmt : (sizes[j]).toNat = m := by omega
  rw [hmt] at hcs
  have hq : i / prodN (nsz (sizes.drop (j + 1))) ≤ i := Nat.div_le_self _ _
  have hget := tmZ_get (i := i) hjl
  rw [hmt] at hget
  generalize hqe : i / prodN (nsz (sizes.drop (j + 1))) = q at hcs hq hget ⊢
  refine T.drawH 16 mixed ?_
  refine DH.pure (i := 0) [(5, _, none)] rfl rfl rfl rfl ⟨⟨rfl, by kernel_rfl⟩, trivial⟩ (fun _ ext => TL.move hF rfl rfl TL.fin) ?_
  refine DH.pure (i := 1) [(6, _, none)] rfl rfl rfl rfl ⟨⟨rfl, by kernel_rfl⟩, trivial⟩ (fun _ ext => TL.move hF rfl rfl TL.fin) ?_
  refine DH.pure (i := 2) [(1, _, none)] rfl rfl rfl rfl ⟨⟨rfl, by kernel_rfl⟩, trivial⟩ (fun _ ext => TL.move hF rfl rfl TL.fin) ?_
  refine DH.pure (i := 3) [(0, _, none)] rfl rfl rfl rfl ⟨⟨rfl, by kernel_rfl⟩, trivial⟩ (fun _ ext => TL.move hF rfl rfl TL.fin) ?_
  refine DH.pure (i := 4) [(6, _, none)] rfl rfl rfl rfl ⟨⟨rfl, by kernel_rfl⟩, trivial⟩ (fun _ ext => TL.move hF rfl rfl TL.fin) ?_
  refine DH.pure (i := 5) [(20, _, some 3), (21, _, some 4)] rfl rfl rfl rfl ⟨⟨rfl, rfl, rfl⟩, ⟨rfl, rfl, rfl⟩, trivial⟩ (fun _ ext => TL.indexAddr hF rfl rfl (hx.adi (i := j) (by simp; omega)) (by omega) (by omega) rfl TL.fin) ?_
  refine DH.read (i := 6) [(22, _, some 5)] rfl rfl rfl rfl ⟨⟨rfl, rfl, rfl⟩, trivial⟩ (fun ext => TL.load hF rfl (v := .int .i64 (m : Int)) (by rw [← hme]; exact (hx.up upc).int (i := j) hjl) rfl TL.fin) ?_
  refine DH.pure (i := 7) [(19, _, some 2), (23, _, some 6)] rfl rfl rfl rfl ⟨⟨rfl, rfl, rfl⟩, ⟨rfl, rfl, rfl⟩, trivial⟩ (fun _ ext => TL.remN hF (a := q) (b := m) rfl rfl hm0 rfl TL.fin) ?_
  refine DH.pure (i := 8) [(1, _, none)] rfl rfl rfl rfl ⟨⟨rfl, by kernel_rfl⟩, trivial⟩ (fun _ ext => TL.move hF rfl rfl TL.fin) ?_
  refine DH.pure (i := 9) [(0, _, none)] rfl rfl rfl rfl ⟨⟨rfl, by kernel_rfl⟩, trivial⟩ (fun _ ext => TL.move hF rfl rfl TL.fin) ?_
  refine DH.pure (i := 10) [(6, _, none)] rfl rfl rfl rfl ⟨⟨rfl, by kernel_rfl⟩, trivial⟩ (fun _ ext => TL.move hF rfl rfl TL.fin) ?_
  refine DH.pure (i := 11) [(26, _, some 9), (27, _, some 10)] rfl rfl rfl rfl ⟨⟨rfl, rfl, rfl⟩, ⟨rfl, rfl, rfl⟩, trivial⟩ (fun _ ext => TL.indexAddr hF rfl rfl (hx.adi (i := j) (by simp; omega)) (by omega) (by omega) rfl TL.fin) ?_
  refine DH.read (i := 12) [(28, _, some 11)] rfl rfl rfl rfl ⟨⟨rfl, rfl, rfl⟩, trivial⟩ (fun ext => TL.load hF rfl (v := .int .i64 (m : Int)) (by rw [← hme]; exact (hx.up upc).int (i := j) hjl) rfl TL.fin) ?_
  refine DH.pure (i := 13) [(25, _, some 8), (29, _, some 12)] rfl rfl rfl rfl ⟨⟨rfl, rfl, rfl⟩, ⟨rfl, rfl, rfl⟩, trivial⟩ (fun _ ext => TL.quoN hF (a := q) (b := m) rfl rfl hm0 (wrap_nat (Nat.le_trans (Nat.div_le_self q m) (by omega))) rfl TL.fin) ?_
  refine DH.pure (i := 14) [(17, _, some 0), (18, _, some 1)] rfl rfl rfl rfl ⟨⟨rfl, rfl, rfl⟩, ⟨rfl, rfl, rfl⟩, trivial⟩ (fun _ ext => TL.indexAddr hF rfl rfl ⟨_, rfl, rfl⟩ (by omega) (by omega) rfl TL.fin) ?_
  refine DH.k1 (by kernel_rfl) (by kernel_rfl) (by kernel_rfl) (by kernel_rfl) (HBK.mk (h := 15) [] [(31, _, some 14), (24, _, some 7)] rfl rfl rfl ⟨⟨rfl, rfl, rfl⟩, ⟨rfl, rfl, rfl⟩, trivial⟩ (by kernel_rfl) (fun ext => ?_))
  refine TL.storeI hF 0 rfl rfl rfl rfl (by simp [intC_len]; omega) ?_
  refine TL.finKN trivial ?_
  refine DH.done [(31, _), (30, _), (29, _), (28, _), (27, _), (26, _), (25, _), (24, _), (23, _), (22, _), (21, _), (20, _), (19, _), (18, _), (17, _)] [_] (by kernel_rfl) (by kernel_rfl) (by kernel_rfl) (by kernel_rfl) rfl rfl ?_
  refine TL.assign hF rfl rfl ?_
  refine TL.nil ?_
  refine TQ.block_n ?_
  refine TQ.then_n ?_
  refine T.region ?_
  refine TL.move hF rfl rfl ?_
  refine TL.sub hF rfl rfl (by omega) (by omega) rfl ?_
  refine TL.assign hF rfl rfl ?_
  refine TL.nil ?_
  refine TQ.round j (by omega) (by omega) ⟨rfl, ?_, rfl, rfl, trivial⟩ (iseg_set (j := j) (by simp) (fun x hx2 => ?_))
  ·show _ = some (Value.int .i64 ((i / prodN (nsz (sizes.drop j)) : Nat) : Int))
   rw [hcs]; rfl
  ·unfold tmF
   by_cases e : x = j
   ·subst e; rw [if_pos (by omega), if_pos rfl, hget]
   ·rw [if_neg e]
    by_cases h2 : j ≤ x
    ·rw [if_pos h2, if_pos (by omega)]
    ·rw [if_neg h2, if_neg (by omega)]
 ·refine T.exit ?_
  refine TQ.then_x ?_
  refine TQ.then_x ?_
  refine TQ.block_x ?_
  refine TQ.then_n ?_
  refine T.seq ?_
  refine T.region ?_
  refine TL.move hF rfl rfl ?_
  refine TL.assign hF rfl rfl ?_
  refine TL.nil ?_
  refine TQ.then_n ?_
  refine T.ret ?_
  refine TQ.rets [4] _ rfl rfl rfl ?_
  have hk0 : k = 0 := by omega
  subst hk0
  exact ⟨b9, rfl, iseg_congr fun j hj => by unfold tmF; rw [if_pos (Nat.zero_le _)]⟩
end Go.Proofs.YteimjjpigohnhaaGreat
/- Sums of changes, and changes of sums: they lead there and back. -/
namespace Go.Proofs.YteimjjpigohnhaaGreat
open Go.Sl
variable {S : Nat → Prop} {w0 : World} {η : Heap}
def sumX (bx l : List Int) : List Int := (List.range l.length).map fun i => wr (sumsS (nsz bx) (getI l) i)
def difX (bx l : List Int) : List Int := (List.range l.length).map fun i => wr (difsS (nsz bx) (getI l) i)
theorem sumX_len (bx l : List Int) : (sumX bx l).length = l.length := by simp [sumX]
theorem difX_len (bx l : List Int) : (difX bx l).length = l.length := by simp [difX]
theorem wd_map {n : Nat} {f : Nat → Int} : Wd ((List.range n).map fun i => wr (f i)) := fun x hx => by
  obtain ⟨i, _, rfl⟩ := List.mem_map.1 hx
  exact wr_range _
theorem sumX_wd (bx l : List Int) : Wd (sumX bx l) := wd_map
theorem difX_wd (bx l : List Int) : Wd (difX bx l) := wd_map
/-- A box of so many cells. -/
structure BoxOk (bx : List Int) (N : Nat) : Prop where
  l1 : 1 ≤ bx.length
  l4 : bx.length ≤ 4
  ok : bx.all szOk = true
  prod : prodI bx = (N : Int)
  n1 : 1 ≤ N
  n60 : N ≤ 60
theorem BoxOk.pN {bx : List Int} {N : Nat} (h : BoxOk bx N) : prodN (nsz bx) = N := by have h1 := nsz_prod h.ok; rw [h.prod] at h1; omega
theorem BoxOk.pos {bx : List Int} {N : Nat} (h : BoxOk bx N) : ∀ m ∈ nsz bx, 0 < m := nsz_pos h.ok
theorem BoxOk.lines {bx l : List Int} {N : Nat} (h : BoxOk bx N) (hl : l.length = N) : linesE bx l = 0 := by
  have e : cellsS bx = (N : Int) := by
    unfold cellsS
    rw [if_pos ⟨⟨h.l1, h.l4⟩, h.ok, by rw [h.prod]; have := h.n60; omega⟩, h.prod]
  unfold linesE
  rw [e, if_neg (by omega), if_pos (by omega)]
theorem sums_box' {a b : Option Addr} {bx l : List Int} {c d N : Nat} (hb : BoxOk bx N) (hl : l.length = N) (hw : Wd l) (hx : Row S w0 η a (ints bx)) (hy : Row S w0 η b (ints l)) : Rt Tryz.prog 16 [.slice a bx.length c, .slice b N d].toArray S w0 η (fun v η' => ∃ a' cap segs, v = .tuple #[.slice a' N cap, .int .i64 0] ∧ Row S w0 segs a' (ints (sumX bx l)) ∧ η' = segs ++ η) := by
  have h4 := hb.l4; have h60 := hb.n60
  have h := Sums_prog (c := c) (d := d) hx hy (by omega) (by omega) hw
  rw [hl] at h
  refine h.mono ?_
  rintro v η' ⟨a', cap, segs, h1, h2, h3⟩
  have e : sumsP bx l = (sumX bx l, 0) := by unfold sumsP boxL; rw [if_pos (hb.lines hl)]; rfl
  rw [e] at h1 h2
  refine ⟨a', cap, segs, ?_, h2, h3⟩
  rw [h1]
  show Value.tuple #[.slice a' (sumX bx l).length cap, .int .i64 0] = _
  rw [sumX_len, hl]
theorem difs_box' {a b : Option Addr} {bx l : List Int} {c d N : Nat} (hb : BoxOk bx N) (hl : l.length = N) (hw : Wd l) (hx : Row S w0 η a (ints bx)) (hy : Row S w0 η b (ints l)) : Rt Tryz.prog 17 [.slice a bx.length c, .slice b N d].toArray S w0 η (fun v η' => ∃ a' cap segs, v = .tuple #[.slice a' N cap, .int .i64 0] ∧ Row S w0 segs a' (ints (difX bx l)) ∧ η' = segs ++ η) := by
  have h4 := hb.l4; have h60 := hb.n60
  have h := Changes_prog (c := c) (d := d) hx hy (by omega) (by omega) hw
  rw [hl] at h
  refine h.mono ?_
  rintro v η' ⟨a', cap, segs, h1, h2, h3⟩
  have e : difsP bx l = (difX bx l, 0) := by unfold difsP boxL; rw [if_pos (hb.lines hl)]; rfl
  rw [e] at h1 h2
  refine ⟨a', cap, segs, ?_, h2, h3⟩
  rw [h1]
  show Value.tuple #[.slice a' (difX bx l).length cap, .int .i64 0] = _
  rw [difX_len, hl]
theorem getI_map {n i : Nat} {f : Nat → Int} (h : i < n) : getI ((List.range n).map f) i = f i := by
  unfold getI; rw [List.getD_eq_getElem?_getD, List.getElem?_map, List.getElem?_range h]; rfl
theorem getI_get {l : List Int} {i : Nat} (h : i < l.length) : getI l i = l[i] := by unfold getI; rw [List.getD_eq_getElem?_getD, List.getElem?_eq_getElem h]; rfl
theorem ext_getI {l m : List Int} (hl : l.length = m.length) (h : ∀ i, i < l.length → getI l i = getI m i) : l = m := by
  apply List.ext_getElem hl
  intro i h1 h2
  rw [← getI_get h1, ← getI_get h2]; exact h i h1
theorem getI_wr {l : List Int} (h : Wd l) (i : Nat) : wr (getI l i) = getI l i := by
  by_cases hi : i < l.length
  · rw [getI_get hi]; have := h _ (List.getElem_mem hi); exact wr_id this.1 this.2
  · unfold getI; rw [List.getD_eq_getElem?_getD, List.getElem?_eq_none (by omega)]; rfl
theorem back_X {bx l : List Int} {N : Nat} (hb : BoxOk bx N) (hl : l.length = N) (hw : Wd l) : difX bx (sumX bx l) = l := by
  refine ext_getI (by rw [difX_len, sumX_len]) fun i hi => ?_
  rw [difX_len, sumX_len] at hi
  unfold difX
  rw [getI_map (by rw [sumX_len]; exact hi)]
  have e1 : difsS (nsz bx) (getI (sumX bx l)) i = difsS (nsz bx) (fun k => wr (boxS (nsz bx) (getI l) k)) i := difsS_congr fun y hy => by
    unfold sumX
    rw [getI_map (by omega), sums_box hb.pos (by rw [hb.pN]; omega)]
  rw [e1, difsS_wr (g := boxS (nsz bx) (getI l)) (fun k => wr_wr _), difs_box hb.pos _ i (by rw [hb.pN]; omega)]
  exact getI_wr hw i
theorem again_X {bx l : List Int} {N : Nat} (hb : BoxOk bx N) (hl : l.length = N) (hw : Wd l) : sumX bx (difX bx l) = l := by
  refine ext_getI (by rw [sumX_len, difX_len]) fun i hi => ?_
  rw [sumX_len, difX_len] at hi
  unfold sumX
  rw [getI_map (by rw [difX_len]; exact hi)]
  have e1 : sumsS (nsz bx) (getI (difX bx l)) i = sumsS (nsz bx) (fun k => wr (difsS (nsz bx) (getI l) k)) i := sumsS_congr fun y hy => by
    unfold difX
    rw [getI_map (by omega)]
  rw [e1, sumsS_wr (g := difsS (nsz bx) (getI l)) (fun k => wr_wr _), sums_box hb.pos (by rw [hb.pN]; omega), box_difs hb.pos (by rw [hb.pN]; omega)]
  exact getI_wr hw i
def addX (l m : List Int) : List Int := List.zipWith (fun x y => wr (x + y)) l m
theorem addX_len {l m : List Int} (h : l.length = m.length) : (addX l m).length = l.length := by simp [addX, h]
theorem addX_wd (l m : List Int) : Wd (addX l m) := fun x hx => by
  unfold addX at hx
  rw [List.mem_iff_getElem] at hx
  obtain ⟨i, hi, rfl⟩ := hx
  rw [List.getElem_zipWith]
  exact wr_range _
theorem addX_get {l m : List Int} {i : Nat} (h : i < l.length) (h2 : i < m.length) : getI (addX l m) i = wr (getI l i + getI m i) := by
  rw [getI_get (by simp [addX]; omega), getI_get h, getI_get h2]
  unfold addX
  rw [List.getElem_zipWith]
theorem sum_add {bx l m : List Int} {N i : Nat} (hb : BoxOk bx N) (hl : l.length = N) (hm : m.length = N) (hi : i < N) : getI (sumX bx (addX l m)) i = wr (getI (sumX bx l) i + getI (sumX bx m) i) := by
  have hla : (addX l m).length = N := by rw [addX_len (by omega), hl]
  unfold sumX
  rw [getI_map (by omega), getI_map (by omega), getI_map (by omega), wr_add, sums_box hb.pos (by rw [hb.pN]; exact hi), sums_box hb.pos (by rw [hb.pN]; exact hi), sums_box hb.pos (by rw [hb.pN]; exact hi), ← boxS_add]
  refine boxS_wr (fun k hk => ?_) i
  rw [hb.pN] at hk
  rw [addX_get (by omega) (by omega), wr_wr]
def oneX (N p : Nat) : List Int := (List.range N).map fun k => if k = p then 1 else 0
theorem oneX_len (N p : Nat) : (oneX N p).length = N := by simp [oneX]
theorem oneX_wd (N p : Nat) : Wd (oneX N p) := fun x hx => by
  obtain ⟨k, _, rfl⟩ := List.mem_map.1 hx
  split <;> omega
theorem sumN_one {n p : Nat} (h : p < n) (f : Nat → Int) (hf : ∀ k, k < n → k ≠ p → f k = 0) : sumN n f = f p := by
  induction n with
  | zero => omega
  | succ n ih =>
    by_cases e : p = n
    · subst e
      have : sumN p f = sumN p fun _ => 0 := sumN_congr fun i hi => hf i (by omega) (by omega)
      simp only [sumN]
      rw [this, sumN_zero]; omega
    · simp only [sumN]
      rw [ih (by omega) (fun k hk => hf k (by omega)), hf n (by omega) (fun q => e q.symm)]; omega
theorem sum_one {bx : List Int} {N p i : Nat} (hb : BoxOk bx N) (hp : p < N) (hi : i < N) : getI (sumX bx (oneX N p)) i = if tle (tmZ bx p) (tmZ bx i) = true then 1 else 0 := by
  unfold sumX
  rw [getI_map (by rw [oneX_len]; exact hi), sums_box hb.pos (by rw [hb.pN]; exact hi)]
  unfold boxS
  rw [hb.pN, sumN_one hp _ (fun k hk hne => by
    unfold oneX; rw [getI_map hk, if_neg hne]; split <;> rfl)]
  unfold oneX
  rw [getI_map hp, if_pos rfl, show tle (tmZ bx p) (tmZ bx i) = leN (tmN (nsz bx) p) (tmN (nsz bx) i) from tle_tmZ _ _]
  split <;> rfl
theorem tw_tmZ {bx : List Int} {N i : Nat} (hb : BoxOk bx N) : Tw bx.length (tmZ bx i) := by
  refine ⟨tmZ_len _ _, isT_iff.2 ⟨by rw [tmZ_len]; exact ⟨hb.l1, hb.l4⟩, fun x hx => ?_⟩⟩
  obtain ⟨j, hj, rfl⟩ := List.getElem_of_mem hx
  rw [tmZ_len] at hj
  have h1 := tmZ_get (i := i) hj
  rw [List.getD_eq_getElem?_getD, List.getElem?_eq_getElem (by rw [tmZ_len]; exact hj), Option.getD_some] at h1
  rw [h1]
  have h2 := szOk_iff.1 (List.all_eq_true.1 hb.ok bx[j] (List.getElem_mem hj))
  have h3 := Nat.mod_lt (i / prodN (nsz (bx.drop (j + 1)))) (show 0 < (bx[j]).toNat by omega)
  omega
theorem lawcells_row {a : Option Addr} {bx : List Int} {c i N : Nat} (hb : BoxOk bx N) (hx : Row S w0 η a (ints bx)) (hi : i < N) : Rt Tryz.prog 20 [.slice a bx.length c, .int .i64 (i : Int)].toArray S w0 η (fun v η' => ∃ g, v = .slice (some ⟨g, 0, none⟩) bx.length bx.length ∧ η' = [(g, Obj.cells (ints (tmZ bx i)).toArray 3 (0, 0))] :: η) := by
  refine (lawcells_fn (c := c) hx hb.l4 hb.ok (by have := hb.n60; omega)).mono ?_
  rintro v η' ⟨g, rfl, rfl⟩
  refine ⟨g, rfl, ?_⟩
  rw [ints_intC, tmZ_len]
theorem Turn_nat {n : Int} {N p : Nat} (hN : N ≤ 60) (h : turnI n (N : Int) = (p : Int)) : Rt Tryz.prog 13 [.int .i64 n, .int .i64 (N : Int)].toArray S w0 η (fun v η' => v = .int .i64 (p : Int) ∧ η' = η) := by
  have h1 := Turn_fn (S := S) (w0 := w0) (η := η) n (m := (N : Int)) (by omega)
  rw [h] at h1; exact h1
theorem turn_ex (n : Int) {N : Nat} (h : 1 ≤ N) : ∃ p : Nat, turnI n (N : Int) = (p : Int) ∧ p < N := by
  have := turnI_range n (m := (N : Int)) (by omega)
  exact ⟨(turnI n (N : Int)).toNat, by omega, by omega⟩
theorem nth_w {l : List Int} (h : Wd l) (i : Int) : W64 (nthI l i) := by
  unfold nthI
  split
  · unfold W64; omega
  · rw [List.getD_eq_getElem?_getD]
    cases e : l[(turnI i l.length).toNat]? with
    | none => show W64 0; unfold W64; omega
    | some x => exact h x (List.mem_of_getElem? e)
theorem EqN {a b : Option Addr} {xs ys : List Int} {c d N : Nat} (hx : Row S w0 η a (ints xs)) (hy : Row S w0 η b (ints ys)) (h1 : xs.length = N) (h2 : ys.length = N) (hw : N ≤ 60) (he : xs = ys) : Rt Tryz.prog 18 [.slice a N c, .slice b N d].toArray S w0 η (fun v η' => v = .bool true ∧ η' = η) := by
  have h := Equal_fn (ca := c) (cb := d) hx hy (by omega)
  rw [h1, h2, decide_eq_true he] at h; exact h
theorem Row.getI_at {a : Option Addr} {l : List Int} {k : Nat} (h : Row S w0 η a (ints l)) (hk : k < l.length) : At S w0 η (sAt a (k * 1)) (.int .i64 (getI l k)) := by
  rw [getI_get hk]; exact h.int hk
end Go.Proofs.YteimjjpigohnhaaGreat
/- The law of changes. -/
namespace Go.Proofs.YteimjjpigohnhaaGreat
open Go.Sl
variable {S : Nat → Prop} {w0 : World} {η : Heap}
set_option maxRecDepth 8000
structure SmS where
 k : Nat
 xs : List Int
 bs : List Int
 aa : Option Addr
 ac : Nat
 ag : Seg
 ba : Option Addr
 bc : Nat
 bg : Seg
 ca : Option Addr
 cc : Nat
 cg : Seg
theorem addX_app {l m : List Int} {x y : Int} (h : l.length = m.length) : addX (l ++ [x]) (m ++ [y]) = addX l m ++ [wr (x + y)] := by
 unfold addX; rw [List.zipWith_append h]; rfl
theorem osl_last {a : Option Addr} {k c : Nat} {l : List Int} {x : Int} {seg : Seg} (h : OSl 3 1 (.slice a (k + 1) c) (k + 1) (ints (l ++ [x])) seg) (hl : l.length = k) (hm : seg ∈ η) : At S w0 η (sAt a (k * 1)) (.int .i64 x) := by
 rw [Nat.mul_one]
 refine (OSl.row h hm).cell k _ ?_
 subst hl
 simp [ints]
theorem ints_app (l : List Int) (x : Int) : ints (l ++ [x]) = ints l ++ [.int .i64 x] := by simp [ints]
theorem wd_app {l : List Int} {x : Int} (h : Wd l) (hx : W64 x) : Wd (l ++ [x]) := fun y hy => by
 rcases List.mem_append.1 hy with h1 | h1
 ·exact h y h1
 ·rw [List.mem_singleton.1 h1]; exact hx
set_option maxHeartbeats 2000000 in
theorem OrderSums_fn {a b e : Option Addr} {ss l m : List Int} {c d g : Nat} {cell : Int} (hx : Row S w0 [] a (ints ss)) (hy : Row S w0 [] b (ints l)) (hz : Row S w0 [] e (ints m)) (_hsl : ss.length < 2 ^ 63) (hl : l.length < 2 ^ 63) (hm : m.length < 2 ^ 63) (_hw : Wd ss) (_hwl : Wd l) (hwm : Wd m) :
  Rt Tryz.prog 3 [.slice a ss.length c, .slice b l.length d, .slice e m.length g, .int .i64 cell].toArray S w0 [] (fun v _ => v = .bool true) := by
 have hF := open_wide
 refine Rt.of (fn := Tryz.f3) Tryz.func3 rfl rfl ?_
 refine T.seq ?_
 refine T.region ?_
 refine TL.assign hF rfl rfl ?_
 refine TL.nil ?_
 refine TQ.then_n ?_
 refine T.seq ?_
 refine T.region ?_
 refine TL.buildSlice hF rfl (cs := #[]) (e := 3) (fun w => by kernel_rfl) rfl (fun b34 => ?_)
 refine TL.assign hF rfl rfl ?_
 refine TL.assign hF rfl rfl ?_
 refine TL.nil ?_
 refine TQ.then_n ?_
 have hb := Back.refl S w0
 refine T.cut (ι := Nat × List Int × Nat × Option Addr × Nat × Seg) (fun z => z.1 ≤ ss.length ∧ z.1 ≤ 4 ∧ z.2.1.length = z.1 ∧ z.2.1.all szOk = true ∧ prodI z.2.1 = (z.2.2.1 : Int) ∧ 1 ≤ z.2.2.1 ∧ z.2.2.1 ≤ 60 ∧ OSl 3 1 (.slice z.2.2.2.1 z.1 z.2.2.2.2.1) z.1 (ints z.2.1) z.2.2.2.2.2) (fun z => [(1, .slice b l.length d), (2, .slice e m.length g), (3, .int .i64 cell), (8, .bool false), (9, .slice z.2.2.2.1 z.1 z.2.2.2.2.1), (10, .int .i64 (z.2.2.1 : Int))]) (fun z => [z.2.2.2.2.2]) ?_ ?_
 ·refine T.seq ?_
  refine T.region ?_
  refine TL.assign hF rfl rfl ?_
  refine TL.nil ?_
  refine TQ.then_n ?_
  refine T.block ?_
  refine T.loop (ι := Nat × List Int × Nat × Option Addr × Nat × Seg) (fun z => z.1 ≤ ss.length ∧ z.1 ≤ 4 ∧ z.2.1.length = z.1 ∧ z.2.1.all szOk = true ∧ prodI z.2.1 = (z.2.2.1 : Int) ∧ 1 ≤ z.2.2.1 ∧ z.2.2.1 ≤ 60 ∧ OSl 3 1 (.slice z.2.2.2.1 z.1 z.2.2.2.2.1) z.1 (ints z.2.1) z.2.2.2.2.2) (fun z => [(0, .slice a ss.length c), (1, .slice b l.length d), (2, .slice e m.length g), (3, .int .i64 cell), (8, .bool false), (9, .slice z.2.2.2.1 z.1 z.2.2.2.2.1), (10, .int .i64 (z.2.2.1 : Int)), (11, .int .i64 (z.1 : Int))]) (fun z => [z.2.2.2.2.2]) (fun z => ss.length - z.1) (0, [], 1, some ⟨b34, 0, none⟩, 0, _) ⟨Nat.zero_le _, Nat.zero_le _, rfl, rfl, rfl, Nat.le_refl 1, (by decide : 1 ≤ 60), osl_empty⟩ ⟨rfl, rfl, rfl, rfl, rfl, rfl, rfl, rfl, trivial⟩ rfl ?_
  rintro ⟨i, bx, N, oa, oc, og⟩ ⟨hi, hi4, hbl, hok, hpr, hn1, hn60, ho⟩
  dsimp only at hi hi4 hbl hok hpr hn1 hn60 ho
  refine T.seq ?_
  refine T.seq ?_
  refine T.region ?_
  refine TL.move hF rfl rfl ?_
  refine TL.move hF rfl rfl ?_
  refine TL.len hF rfl rfl ?_
  refine TL.bin hF rfl rfl rfl rfl ?_
  refine TL.move hF rfl rfl ?_
  refine TL.gd (t := 39) rfl (fun g3_39 => ?_) (fun g3_39 => ?_)
  ·refine TL.on rfl rfl rfl (decide_eq_true g3_39) ?_
   refine TL.move hF rfl rfl ?_
   refine TL.on rfl rfl rfl (decide_eq_true g3_39) ?_
   refine TL.bin hF rfl rfl rfl rfl ?_
   refine TL.pickT hF rfl (decide_eq_true g3_39) rfl rfl ?_
   refine TL.nil ?_
   refine TQ.then_n ?_
   first | refine T.cond_d rfl (fun ht42 => ?_) (fun ht42 => ?_) | refine T.cond _ rfl (fun ht42 => ?_) (fun ht42 => ?_)
   ·refine T.skip ?_
    refine TQ.then_n ?_
    refine T.seq ?_
    refine T.block ?_
    refine T.seq ?_
    have hil : i < ss.length := by first | (have h : (i : Int) < (ss.length : Int) := g3_39; omega) | omega
    have hi3 : i < 4 := by have h : (i : Int) < 4 := ht42; omega
    have hdv : 1 ≤ 60 / N ∧ N * (60 / N) ≤ 60 := ⟨(Nat.le_div_iff_mul_le (by omega)).2 (by omega), Nat.mul_div_le _ _⟩
    have hmn : 1 ≤ min (5 : Int) ((60 / N : Nat) : Int) ∧ min (5 : Int) ((60 / N : Nat) : Int) ≤ 5 ∧ min (5 : Int) ((60 / N : Nat) : Int) ≤ ((60 / N : Nat) : Int) := by omega
    have htr := turnI_range ss[i] (m := min (5 : Int) ((60 / N : Nat) : Int)) hmn.1
    obtain ⟨q, hq, hq2⟩ : ∃ q : Nat, turnI ss[i] (min (5 : Int) ((60 / N : Nat) : Int)) = (q : Int) ∧ q < 5 ∧ q < 60 / N := ⟨(turnI ss[i] (min (5 : Int) ((60 / N : Nat) : Int))).toNat, by omega, by omega, by omega⟩
    have hNq : N * (1 + q) ≤ 60 := Nat.le_trans (Nat.mul_le_mul_left N (show 1 + q ≤ 60 / N by omega)) hdv.2
    refine T.draw ?_
    refine DR.stepV [_] rfl [(0, _, none)] rfl rfl ⟨⟨rfl, by kernel_rfl⟩, trivial⟩ (fun ext => TL.move hF rfl rfl TL.fin) ?_
    refine DR.stepV [_, _] rfl [(11, _, none)] rfl rfl ⟨⟨rfl, by kernel_rfl⟩, trivial⟩ (fun ext => TL.move hF rfl rfl TL.fin) ?_
    refine DR.stepV [_, _, _] rfl [(45, _, some 0), (46, _, some 1)] rfl rfl ⟨⟨rfl, rfl, rfl⟩, ⟨rfl, rfl, rfl⟩, trivial⟩ (fun ext => TL.indexAddr hF rfl rfl (hx.adi (i := i) (by simp; omega)) (by omega) (by omega) rfl TL.fin) ?_
    refine DR.stepV [_, _, _, _] rfl [(47, _, some 2)] rfl rfl ⟨⟨rfl, rfl, rfl⟩, trivial⟩ (fun ext => TL.load hF rfl (hx.ro.int (i := i) (by omega)) rfl TL.fin) ?_
    refine DR.stepV [_, _, _, _, _] rfl [(10, _, none)] rfl rfl ⟨⟨rfl, by kernel_rfl⟩, trivial⟩ (fun ext => TL.move hF rfl rfl TL.fin) ?_
    refine DR.stepV [_, _, _, _, _, _] rfl [(49, _, some 4)] rfl rfl ⟨⟨rfl, rfl, rfl⟩, trivial⟩ (fun ext => TL.quoN hF (a := 60) (b := N) rfl rfl (by omega) (wrap_nat (Nat.le_trans (Nat.div_le_self 60 N) (by omega))) rfl TL.fin) ?_
    refine DR.stepV [_, _, _, _, _, _, _] rfl [(50, _, some 5)] rfl rfl ⟨⟨rfl, rfl, rfl⟩, trivial⟩ (fun ext => TL.min2 hF rfl rfl rfl TL.fin) ?_
    refine DR.done [(51, _), (50, _), (49, _), (48, _), (47, _), (46, _), (45, _)] [_, _, _] mixed (by kernel_rfl) (by kernel_rfl) (by kernel_rfl) rfl rfl ?_
    refine TL.callV hF (Turn_fn ss[i] (m := min (5 : Int) ((60 / N : Nat) : Int)) (by omega)) rfl rfl ?_
    rw [hq]
    refine TL.addK hF rfl rfl (r := ((1 + q : Nat) : Int)) ((wrap_i64 (by omega) (by omega)).trans (by omega)) rfl ?_
    refine TL.assign hF rfl rfl ?_
    refine TL.nil ?_
    refine TQ.then_n ?_
    refine T.region ?_
    refine TL.move hF rfl rfl ?_
    refine TL.move hF rfl rfl ?_
    refine TL.buildSlice hF rfl (cs := #[.int .i64 ((1 + q : Nat) : Int)]) (e := 3) (fun w => by kernel_rfl) rfl (fun b56 => ?_)
    refine TL.append hF 1 rfl rfl rfl ho (row_own (cs := [.int .i64 ((1 + q : Nat) : Int)]) (e := 3) (by simp)).src rfl rfl (by simp [Value.oneCell']) (by omega) (by omega) rfl (fun a' cap' seg' ho' => ?_)
    refine TL.move hF rfl rfl ?_
    refine TL.move hF rfl rfl ?_
    refine TL.mulK hF rfl rfl (r := ((N * (1 + q) : Nat) : Int)) (by rw [← Int.natCast_mul]; exact wrap_nat (Nat.le_trans hNq (by omega))) rfl ?_
    refine TL.assign hF rfl rfl ?_
    refine TL.assign hF rfl rfl ?_
    refine TL.nil ?_
    refine TQ.block_n ?_
    refine TQ.then_n ?_
    refine T.region ?_
    refine TL.move hF rfl rfl ?_
    refine TL.add hF rfl rfl (by omega) (by omega) rfl ?_
    refine TL.assign hF rfl rfl ?_
    refine TL.nil ?_
    have hpa : prodI (bx ++ [((1 + q : Nat) : Int)]) = ((N * (1 + q) : Nat) : Int) := by
     have h1 : prodI (bx ++ [((1 + q : Nat) : Int)]) = prodI bx * ((1 + q : Nat) : Int) := by unfold prodI; rw [List.foldl_append]; rfl
     rw [h1, hpr, Int.natCast_mul]
    have hsz : szOk ((1 + q : Nat) : Int) = true := szOk_iff.2 (by omega)
    refine TQ.pop ?_
    refine TQ.round (i + 1, bx ++ [((1 + q : Nat) : Int)], N * (1 + q), a', cap', seg') ⟨by dsimp only; omega, by dsimp only; omega, by simp [hbl], by rw [List.all_append, hok]; show (true && (szOk ((1 + q : Nat) : Int) && true)) = true; rw [hsz]; rfl, hpa, ?_, hNq, ?_⟩ (by dsimp only; omega) ⟨rfl, rfl, rfl, rfl, rfl, rfl, rfl, rfl, trivial⟩ rfl
    ·dsimp only
     exact Nat.le_trans hn1 (Nat.le_mul_of_pos_right N (by omega))
    ·dsimp only
     have e : ints (bx ++ [((1 + q : Nat) : Int)]) = ints bx ++ [.int .i64 ((1 + q : Nat) : Int)] := by simp [ints]
     rw [e]; exact ho'
   ·refine T.exit ?_
    refine TQ.then_x ?_
    refine TQ.then_x ?_
    refine TQ.block_x ?_
    exact TQ.cut (i, bx, N, oa, oc, og) ⟨hi, hi4, hbl, hok, hpr, hn1, hn60, ho⟩ ⟨rfl, rfl, rfl, rfl, rfl, rfl, trivial⟩ rfl
  ·refine TL.off hF rfl rfl rfl (decide_eq_false g3_39) rfl ?_
   refine TL.off hF rfl rfl rfl (decide_eq_false g3_39) rfl ?_
   refine TL.pickF hF rfl (decide_eq_false g3_39) rfl rfl ?_
   refine TL.nil ?_
   refine TQ.then_n ?_
   refine T.cond_f rfl rfl ?_
   refine T.exit ?_
   refine TQ.then_x ?_
   refine TQ.then_x ?_
   refine TQ.block_x ?_
   exact TQ.cut (i, bx, N, oa, oc, og) ⟨hi, hi4, hbl, hok, hpr, hn1, hn60, ho⟩ ⟨rfl, rfl, rfl, rfl, rfl, rfl, trivial⟩ rfl
 ·rintro ⟨i, bx, N, oa, oc, og⟩ ⟨hi, hi4, hbl, hok, hpr, hn1, hn60, ho⟩
  dsimp only at hi hi4 hbl hok hpr hn1 hn60 ho ⊢
  subst hbl
  refine T.seq ?_
  refine T.seq ?_
  refine T.region ?_
  refine TL.move hF rfl rfl ?_
  refine TL.len hF rfl rfl ?_
  refine TL.bin hF rfl rfl rfl rfl ?_
  refine TL.nil ?_
  refine TQ.then_n ?_
  refine T.cond_d rfl (fun ht63 => ?_) (fun ht63 => ?_)
  ·refine T.seq ?_
   refine T.region ?_
   refine TL.call hF ordered_fn rfl rfl ?_
   rintro _ _ rfl
   refine TL.assign hF rfl rfl ?_
   refine TL.nil ?_
   refine TQ.then_n ?_
   refine T.ret ?_
   refine TQ.then_r ?_
   refine TQ.rets [8] _ rfl rfl rfl ?_
   rfl
  ·refine T.skip ?_
   refine TQ.then_n ?_
   have hB : BoxOk bx N := ⟨by have h : ¬ (bx.length : Int) = 0 := ht63; omega, hi4, hok, hpr, hn1, hn60⟩
   refine T.freeze [og] rfl (fun S1 w1 hz1 => ?_)
   have hbx : Row S1 w1 [] oa (ints bx) := (ho.row (η := [og]) List.mem_cons_self).frz hz1
   replace hb := hb.frz hz1
   replace hy := hy.old hz1
   replace hz := hz.old hz1
   refine T.cut (ι := Nat × Nat × Nat × Nat) (fun _ => True) (fun z => [(1, .slice b l.length d), (2, .slice e m.length g), (3, .int .i64 cell), (8, .bool false), (9, .slice oa bx.length oc), (10, .int .i64 (N : Int)), (13, .slice (some ⟨z.1, 0, none⟩) 0 0), (14, .slice (some ⟨z.2.1, 0, none⟩) 0 0), (15, .slice (some ⟨z.2.2.1, 0, none⟩) 0 0), (16, .slice (some ⟨z.2.2.2, 0, none⟩) N N)]) (fun z => [[(z.1, .cells #[] 3 (0, 0))], [(z.2.1, .cells #[] 3 (0, 0))], [(z.2.2.1, .cells #[] 3 (0, 0))], iseg z.2.2.2 N fun _ => 0]) ?_ ?_
   ·refine T.drawH 8 mixed ?_
    refine DH.pure (i := 3) [(10, _, none)] rfl rfl rfl rfl ⟨⟨rfl, by kernel_rfl⟩, trivial⟩ (fun _ ext => TL.move hF rfl rfl TL.fin) ?_
    refine DH.k4 (by kernel_rfl) (by kernel_rfl) (by kernel_rfl) (by kernel_rfl) (HBK.mk (h := 0) [] [] rfl rfl rfl trivial (by kernel_rfl) (fun ext => ?_)) (HBK.mk (h := 1) [] [] rfl rfl rfl trivial (by kernel_rfl) (fun ext => ?_)) (HBK.mk (h := 2) [] [] rfl rfl rfl trivial (by kernel_rfl) (fun ext => ?_)) (HBK.mk (h := 4) [] [(68, _, some 3)] rfl rfl rfl ⟨⟨rfl, rfl, rfl⟩, trivial⟩ (by kernel_rfl) (fun ext => ?_))
    ·refine TL.buildSlice hF rfl (cs := #[]) (e := 3) (fun w => by kernel_rfl) rfl (fun b65 => ?_)
     refine TL.finK trivial ?_
     refine DH.pure (i := 5) [(65, _, some 0)] rfl rfl rfl rfl ⟨⟨rfl, rfl, rfl⟩, trivial⟩ (fun _ ext => TL.assign hF rfl rfl TL.fin) ?_
     refine DH.heavy3 (h1 := 1) (h2 := 2) (h3 := 4) (by kernel_rfl) (by kernel_rfl) (by kernel_rfl) (by kernel_rfl) ⟨_, _, [], rfl, rfl, rfl, rfl, trivial, by kernel_rfl, fun ext => ?_⟩ ⟨_, _, [], rfl, rfl, rfl, rfl, trivial, by kernel_rfl, fun ext => ?_⟩ ⟨_, _, [(68, _, some 3)], rfl, rfl, rfl, rfl, ⟨⟨rfl, rfl, rfl⟩, trivial⟩, by kernel_rfl, fun ext => ?_⟩
     ·refine TL.buildSlice hF rfl (cs := #[]) (e := 3) (fun w => by kernel_rfl) rfl (fun b66 => ?_)
      refine TL.finD ?_
      refine DH.pure (i := 6) [(66, _, some 1)] rfl rfl rfl rfl ⟨⟨rfl, rfl, rfl⟩, trivial⟩ (fun _ ext => TL.assign hF rfl rfl TL.fin) ?_
      refine DH.heavy2 (h1 := 2) (h2 := 4) (by kernel_rfl) (by kernel_rfl) (by kernel_rfl) (by kernel_rfl) ⟨_, _, [], rfl, rfl, rfl, rfl, trivial, by kernel_rfl, fun ext => ?_⟩ ⟨_, _, [(68, _, some 3)], rfl, rfl, rfl, rfl, ⟨⟨rfl, rfl, rfl⟩, trivial⟩, by kernel_rfl, fun ext => ?_⟩
      ·refine TL.buildSlice hF rfl (cs := #[]) (e := 3) (fun w => by kernel_rfl) rfl (fun b67 => ?_)
       refine TL.finD ?_
       refine DH.pure (i := 7) [(67, _, some 2)] rfl rfl rfl rfl ⟨⟨rfl, rfl, rfl⟩, trivial⟩ (fun _ ext => TL.assign hF rfl rfl TL.fin) ?_
       refine DH.heavy 4 [(68, _, some 3)] (by kernel_rfl) (by kernel_rfl) (by kernel_rfl) (by kernel_rfl) rfl rfl rfl rfl ⟨⟨rfl, rfl, rfl⟩, trivial⟩ (by kernel_rfl) (fun ext => ?_)
       refine TL.makeSlice hF rfl rfl rfl (by omega) (by omega) rfl (fun b69 => ?_)
       rw [intC_zero]
       refine TL.finD ?_
       refine DH.done [(69, _), (15, _), (67, _), (14, _), (66, _), (13, _), (65, _), (68, _)] [_] (by kernel_rfl) (by kernel_rfl) (by kernel_rfl) (by kernel_rfl) rfl rfl ?_
       refine TL.assign hF rfl rfl ?_
       refine TL.nil ?_
       refine TQ.pick [3, 2, 1, 0] [_, _, _, _] rfl rfl rfl ?_
       exact TQ.cut (b65, b66, b67, b69) trivial ⟨rfl, rfl, rfl, rfl, rfl, rfl, rfl, rfl, rfl, rfl, trivial⟩ rfl
      ·refine TL.makeSlice hF rfl rfl rfl (by omega) (by omega) rfl (fun b69 => ?_)
       rw [intC_zero]
       refine TL.finD ?_
       refine DH.heavy 2 [] (by kernel_rfl) (by kernel_rfl) (by kernel_rfl) (by kernel_rfl) rfl rfl rfl rfl trivial (by kernel_rfl) (fun ext => ?_)
       refine TL.buildSlice hF rfl (cs := #[]) (e := 3) (fun w => by kernel_rfl) rfl (fun b67 => ?_)
       refine TL.finD ?_
       refine DH.pure (i := 7) [(67, _, some 2)] rfl rfl rfl rfl ⟨⟨rfl, rfl, rfl⟩, trivial⟩ (fun _ ext => TL.assign hF rfl rfl TL.fin) ?_
       refine DH.done [(15, _), (67, _), (69, _), (14, _), (66, _), (13, _), (65, _), (68, _)] [_] (by kernel_rfl) (by kernel_rfl) (by kernel_rfl) (by kernel_rfl) rfl rfl ?_
       refine TL.assign hF rfl rfl ?_
       refine TL.nil ?_
       refine TQ.pick [3, 2, 0, 1] [_, _, _, _] rfl rfl rfl ?_
       exact TQ.cut (b65, b66, b67, b69) trivial ⟨rfl, rfl, rfl, rfl, rfl, rfl, rfl, rfl, rfl, rfl, trivial⟩ rfl
     ·refine TL.buildSlice hF rfl (cs := #[]) (e := 3) (fun w => by kernel_rfl) rfl (fun b67 => ?_)
      refine TL.finD ?_
      refine DH.heavy2 (h1 := 1) (h2 := 4) (by kernel_rfl) (by kernel_rfl) (by kernel_rfl) (by kernel_rfl) ⟨_, _, [], rfl, rfl, rfl, rfl, trivial, by kernel_rfl, fun ext => ?_⟩ ⟨_, _, [(68, _, some 3)], rfl, rfl, rfl, rfl, ⟨⟨rfl, rfl, rfl⟩, trivial⟩, by kernel_rfl, fun ext => ?_⟩
      ·refine TL.buildSlice hF rfl (cs := #[]) (e := 3) (fun w => by kernel_rfl) rfl (fun b66 => ?_)
       refine TL.finD ?_
       refine DH.pure (i := 6) [(66, _, some 1)] rfl rfl rfl rfl ⟨⟨rfl, rfl, rfl⟩, trivial⟩ (fun _ ext => TL.assign hF rfl rfl TL.fin) ?_
       refine DH.pure (i := 7) [(67, _, some 2)] rfl rfl rfl rfl ⟨⟨rfl, rfl, rfl⟩, trivial⟩ (fun _ ext => TL.assign hF rfl rfl TL.fin) ?_
       refine DH.heavy 4 [(68, _, some 3)] (by kernel_rfl) (by kernel_rfl) (by kernel_rfl) (by kernel_rfl) rfl rfl rfl rfl ⟨⟨rfl, rfl, rfl⟩, trivial⟩ (by kernel_rfl) (fun ext => ?_)
       refine TL.makeSlice hF rfl rfl rfl (by omega) (by omega) rfl (fun b69 => ?_)
       rw [intC_zero]
       refine TL.finD ?_
       refine DH.done [(69, _), (15, _), (14, _), (66, _), (67, _), (13, _), (65, _), (68, _)] [_] (by kernel_rfl) (by kernel_rfl) (by kernel_rfl) (by kernel_rfl) rfl rfl ?_
       refine TL.assign hF rfl rfl ?_
       refine TL.nil ?_
       refine TQ.pick [3, 1, 2, 0] [_, _, _, _] rfl rfl rfl ?_
       exact TQ.cut (b65, b66, b67, b69) trivial ⟨rfl, rfl, rfl, rfl, rfl, rfl, rfl, rfl, rfl, rfl, trivial⟩ rfl
      ·refine TL.makeSlice hF rfl rfl rfl (by omega) (by omega) rfl (fun b69 => ?_)
       rw [intC_zero]
       refine TL.finD ?_
       refine DH.heavy 1 [] (by kernel_rfl) (by kernel_rfl) (by kernel_rfl) (by kernel_rfl) rfl rfl rfl rfl trivial (by kernel_rfl) (fun ext => ?_)
       refine TL.buildSlice hF rfl (cs := #[]) (e := 3) (fun w => by kernel_rfl) rfl (fun b66 => ?_)
       refine TL.finD ?_
       refine DH.pure (i := 6) [(66, _, some 1)] rfl rfl rfl rfl ⟨⟨rfl, rfl, rfl⟩, trivial⟩ (fun _ ext => TL.assign hF rfl rfl TL.fin) ?_
       refine DH.pure (i := 7) [(67, _, some 2)] rfl rfl rfl rfl ⟨⟨rfl, rfl, rfl⟩, trivial⟩ (fun _ ext => TL.assign hF rfl rfl TL.fin) ?_
       refine DH.done [(15, _), (14, _), (66, _), (69, _), (67, _), (13, _), (65, _), (68, _)] [_] (by kernel_rfl) (by kernel_rfl) (by kernel_rfl) (by kernel_rfl) rfl rfl ?_
       refine TL.assign hF rfl rfl ?_
       refine TL.nil ?_
       refine TQ.pick [3, 0, 2, 1] [_, _, _, _] rfl rfl rfl ?_
       exact TQ.cut (b65, b66, b67, b69) trivial ⟨rfl, rfl, rfl, rfl, rfl, rfl, rfl, rfl, rfl, rfl, trivial⟩ rfl
     ·refine TL.makeSlice hF rfl rfl rfl (by omega) (by omega) rfl (fun b69 => ?_)
      rw [intC_zero]
      refine TL.finD ?_
      refine DH.heavy2 (h1 := 1) (h2 := 2) (by kernel_rfl) (by kernel_rfl) (by kernel_rfl) (by kernel_rfl) ⟨_, _, [], rfl, rfl, rfl, rfl, trivial, by kernel_rfl, fun ext => ?_⟩ ⟨_, _, [], rfl, rfl, rfl, rfl, trivial, by kernel_rfl, fun ext => ?_⟩
      ·refine TL.buildSlice hF rfl (cs := #[]) (e := 3) (fun w => by kernel_rfl) rfl (fun b66 => ?_)
       refine TL.finD ?_
       refine DH.pure (i := 6) [(66, _, some 1)] rfl rfl rfl rfl ⟨⟨rfl, rfl, rfl⟩, trivial⟩ (fun _ ext => TL.assign hF rfl rfl TL.fin) ?_
       refine DH.heavy 2 [] (by kernel_rfl) (by kernel_rfl) (by kernel_rfl) (by kernel_rfl) rfl rfl rfl rfl trivial (by kernel_rfl) (fun ext => ?_)
       refine TL.buildSlice hF rfl (cs := #[]) (e := 3) (fun w => by kernel_rfl) rfl (fun b67 => ?_)
       refine TL.finD ?_
       refine DH.pure (i := 7) [(67, _, some 2)] rfl rfl rfl rfl ⟨⟨rfl, rfl, rfl⟩, trivial⟩ (fun _ ext => TL.assign hF rfl rfl TL.fin) ?_
       refine DH.done [(15, _), (67, _), (14, _), (66, _), (69, _), (13, _), (65, _), (68, _)] [_] (by kernel_rfl) (by kernel_rfl) (by kernel_rfl) (by kernel_rfl) rfl rfl ?_
       refine TL.assign hF rfl rfl ?_
       refine TL.nil ?_
       refine TQ.pick [3, 1, 0, 2] [_, _, _, _] rfl rfl rfl ?_
       exact TQ.cut (b65, b66, b67, b69) trivial ⟨rfl, rfl, rfl, rfl, rfl, rfl, rfl, rfl, rfl, rfl, trivial⟩ rfl
      ·refine TL.buildSlice hF rfl (cs := #[]) (e := 3) (fun w => by kernel_rfl) rfl (fun b67 => ?_)
       refine TL.finD ?_
       refine DH.heavy 1 [] (by kernel_rfl) (by kernel_rfl) (by kernel_rfl) (by kernel_rfl) rfl rfl rfl rfl trivial (by kernel_rfl) (fun ext => ?_)
       refine TL.buildSlice hF rfl (cs := #[]) (e := 3) (fun w => by kernel_rfl) rfl (fun b66 => ?_)
       refine TL.finD ?_
       refine DH.pure (i := 6) [(66, _, some 1)] rfl rfl rfl rfl ⟨⟨rfl, rfl, rfl⟩, trivial⟩ (fun _ ext => TL.assign hF rfl rfl TL.fin) ?_
       refine DH.pure (i := 7) [(67, _, some 2)] rfl rfl rfl rfl ⟨⟨rfl, rfl, rfl⟩, trivial⟩ (fun _ ext => TL.assign hF rfl rfl TL.fin) ?_
       refine DH.done [(15, _), (14, _), (66, _), (67, _), (69, _), (13, _), (65, _), (68, _)] [_] (by kernel_rfl) (by kernel_rfl) (by kernel_rfl) (by kernel_rfl) rfl rfl ?_
       refine TL.assign hF rfl rfl ?_
       refine TL.nil ?_
       refine TQ.pick [3, 0, 1, 2] [_, _, _, _] rfl rfl rfl ?_
       exact TQ.cut (b65, b66, b67, b69) trivial ⟨rfl, rfl, rfl, rfl, rfl, rfl, rfl, rfl, rfl, rfl, trivial⟩ rfl
    ·refine TL.buildSlice hF rfl (cs := #[]) (e := 3) (fun w => by kernel_rfl) rfl (fun b66 => ?_)
     refine TL.finK trivial ?_
     refine DH.heavy3 (h1 := 0) (h2 := 2) (h3 := 4) (by kernel_rfl) (by kernel_rfl) (by kernel_rfl) (by kernel_rfl) ⟨_, _, [], rfl, rfl, rfl, rfl, trivial, by kernel_rfl, fun ext => ?_⟩ ⟨_, _, [], rfl, rfl, rfl, rfl, trivial, by kernel_rfl, fun ext => ?_⟩ ⟨_, _, [(68, _, some 3)], rfl, rfl, rfl, rfl, ⟨⟨rfl, rfl, rfl⟩, trivial⟩, by kernel_rfl, fun ext => ?_⟩
     ·refine TL.buildSlice hF rfl (cs := #[]) (e := 3) (fun w => by kernel_rfl) rfl (fun b65 => ?_)
      refine TL.finD ?_
      refine DH.pure (i := 5) [(65, _, some 0)] rfl rfl rfl rfl ⟨⟨rfl, rfl, rfl⟩, trivial⟩ (fun _ ext => TL.assign hF rfl rfl TL.fin) ?_
      refine DH.pure (i := 6) [(66, _, some 1)] rfl rfl rfl rfl ⟨⟨rfl, rfl, rfl⟩, trivial⟩ (fun _ ext => TL.assign hF rfl rfl TL.fin) ?_
      refine DH.heavy2 (h1 := 2) (h2 := 4) (by kernel_rfl) (by kernel_rfl) (by kernel_rfl) (by kernel_rfl) ⟨_, _, [], rfl, rfl, rfl, rfl, trivial, by kernel_rfl, fun ext => ?_⟩ ⟨_, _, [(68, _, some 3)], rfl, rfl, rfl, rfl, ⟨⟨rfl, rfl, rfl⟩, trivial⟩, by kernel_rfl, fun ext => ?_⟩
      ·refine TL.buildSlice hF rfl (cs := #[]) (e := 3) (fun w => by kernel_rfl) rfl (fun b67 => ?_)
       refine TL.finD ?_
       refine DH.pure (i := 7) [(67, _, some 2)] rfl rfl rfl rfl ⟨⟨rfl, rfl, rfl⟩, trivial⟩ (fun _ ext => TL.assign hF rfl rfl TL.fin) ?_
       refine DH.heavy 4 [(68, _, some 3)] (by kernel_rfl) (by kernel_rfl) (by kernel_rfl) (by kernel_rfl) rfl rfl rfl rfl ⟨⟨rfl, rfl, rfl⟩, trivial⟩ (by kernel_rfl) (fun ext => ?_)
       refine TL.makeSlice hF rfl rfl rfl (by omega) (by omega) rfl (fun b69 => ?_)
       rw [intC_zero]
       refine TL.finD ?_
       refine DH.done [(69, _), (15, _), (67, _), (14, _), (13, _), (65, _), (66, _), (68, _)] [_] (by kernel_rfl) (by kernel_rfl) (by kernel_rfl) (by kernel_rfl) rfl rfl ?_
       refine TL.assign hF rfl rfl ?_
       refine TL.nil ?_
       refine TQ.pick [2, 3, 1, 0] [_, _, _, _] rfl rfl rfl ?_
       exact TQ.cut (b65, b66, b67, b69) trivial ⟨rfl, rfl, rfl, rfl, rfl, rfl, rfl, rfl, rfl, rfl, trivial⟩ rfl
      ·refine TL.makeSlice hF rfl rfl rfl (by omega) (by omega) rfl (fun b69 => ?_)
       rw [intC_zero]
       refine TL.finD ?_
       refine DH.heavy 2 [] (by kernel_rfl) (by kernel_rfl) (by kernel_rfl) (by kernel_rfl) rfl rfl rfl rfl trivial (by kernel_rfl) (fun ext => ?_)
       refine TL.buildSlice hF rfl (cs := #[]) (e := 3) (fun w => by kernel_rfl) rfl (fun b67 => ?_)
       refine TL.finD ?_
       refine DH.pure (i := 7) [(67, _, some 2)] rfl rfl rfl rfl ⟨⟨rfl, rfl, rfl⟩, trivial⟩ (fun _ ext => TL.assign hF rfl rfl TL.fin) ?_
       refine DH.done [(15, _), (67, _), (69, _), (14, _), (13, _), (65, _), (66, _), (68, _)] [_] (by kernel_rfl) (by kernel_rfl) (by kernel_rfl) (by kernel_rfl) rfl rfl ?_
       refine TL.assign hF rfl rfl ?_
       refine TL.nil ?_
       refine TQ.pick [2, 3, 0, 1] [_, _, _, _] rfl rfl rfl ?_
       exact TQ.cut (b65, b66, b67, b69) trivial ⟨rfl, rfl, rfl, rfl, rfl, rfl, rfl, rfl, rfl, rfl, trivial⟩ rfl
     ·refine TL.buildSlice hF rfl (cs := #[]) (e := 3) (fun w => by kernel_rfl) rfl (fun b67 => ?_)
      refine TL.finD ?_
      refine DH.heavy2 (h1 := 0) (h2 := 4) (by kernel_rfl) (by kernel_rfl) (by kernel_rfl) (by kernel_rfl) ⟨_, _, [], rfl, rfl, rfl, rfl, trivial, by kernel_rfl, fun ext => ?_⟩ ⟨_, _, [(68, _, some 3)], rfl, rfl, rfl, rfl, ⟨⟨rfl, rfl, rfl⟩, trivial⟩, by kernel_rfl, fun ext => ?_⟩
      ·refine TL.buildSlice hF rfl (cs := #[]) (e := 3) (fun w => by kernel_rfl) rfl (fun b65 => ?_)
       refine TL.finD ?_
       refine DH.pure (i := 5) [(65, _, some 0)] rfl rfl rfl rfl ⟨⟨rfl, rfl, rfl⟩, trivial⟩ (fun _ ext => TL.assign hF rfl rfl TL.fin) ?_
       refine DH.pure (i := 6) [(66, _, some 1)] rfl rfl rfl rfl ⟨⟨rfl, rfl, rfl⟩, trivial⟩ (fun _ ext => TL.assign hF rfl rfl TL.fin) ?_
       refine DH.pure (i := 7) [(67, _, some 2)] rfl rfl rfl rfl ⟨⟨rfl, rfl, rfl⟩, trivial⟩ (fun _ ext => TL.assign hF rfl rfl TL.fin) ?_
       refine DH.heavy 4 [(68, _, some 3)] (by kernel_rfl) (by kernel_rfl) (by kernel_rfl) (by kernel_rfl) rfl rfl rfl rfl ⟨⟨rfl, rfl, rfl⟩, trivial⟩ (by kernel_rfl) (fun ext => ?_)
       refine TL.makeSlice hF rfl rfl rfl (by omega) (by omega) rfl (fun b69 => ?_)
       rw [intC_zero]
       refine TL.finD ?_
       refine DH.done [(69, _), (15, _), (14, _), (13, _), (65, _), (67, _), (66, _), (68, _)] [_] (by kernel_rfl) (by kernel_rfl) (by kernel_rfl) (by kernel_rfl) rfl rfl ?_
       refine TL.assign hF rfl rfl ?_
       refine TL.nil ?_
       refine TQ.pick [1, 3, 2, 0] [_, _, _, _] rfl rfl rfl ?_
       exact TQ.cut (b65, b66, b67, b69) trivial ⟨rfl, rfl, rfl, rfl, rfl, rfl, rfl, rfl, rfl, rfl, trivial⟩ rfl
      ·refine TL.makeSlice hF rfl rfl rfl (by omega) (by omega) rfl (fun b69 => ?_)
       rw [intC_zero]
       refine TL.finD ?_
       refine DH.heavy 0 [] (by kernel_rfl) (by kernel_rfl) (by kernel_rfl) (by kernel_rfl) rfl rfl rfl rfl trivial (by kernel_rfl) (fun ext => ?_)
       refine TL.buildSlice hF rfl (cs := #[]) (e := 3) (fun w => by kernel_rfl) rfl (fun b65 => ?_)
       refine TL.finD ?_
       refine DH.pure (i := 5) [(65, _, some 0)] rfl rfl rfl rfl ⟨⟨rfl, rfl, rfl⟩, trivial⟩ (fun _ ext => TL.assign hF rfl rfl TL.fin) ?_
       refine DH.pure (i := 6) [(66, _, some 1)] rfl rfl rfl rfl ⟨⟨rfl, rfl, rfl⟩, trivial⟩ (fun _ ext => TL.assign hF rfl rfl TL.fin) ?_
       refine DH.pure (i := 7) [(67, _, some 2)] rfl rfl rfl rfl ⟨⟨rfl, rfl, rfl⟩, trivial⟩ (fun _ ext => TL.assign hF rfl rfl TL.fin) ?_
       refine DH.done [(15, _), (14, _), (13, _), (65, _), (69, _), (67, _), (66, _), (68, _)] [_] (by kernel_rfl) (by kernel_rfl) (by kernel_rfl) (by kernel_rfl) rfl rfl ?_
       refine TL.assign hF rfl rfl ?_
       refine TL.nil ?_
       refine TQ.pick [0, 3, 2, 1] [_, _, _, _] rfl rfl rfl ?_
       exact TQ.cut (b65, b66, b67, b69) trivial ⟨rfl, rfl, rfl, rfl, rfl, rfl, rfl, rfl, rfl, rfl, trivial⟩ rfl
     ·refine TL.makeSlice hF rfl rfl rfl (by omega) (by omega) rfl (fun b69 => ?_)
      rw [intC_zero]
      refine TL.finD ?_
      refine DH.heavy2 (h1 := 0) (h2 := 2) (by kernel_rfl) (by kernel_rfl) (by kernel_rfl) (by kernel_rfl) ⟨_, _, [], rfl, rfl, rfl, rfl, trivial, by kernel_rfl, fun ext => ?_⟩ ⟨_, _, [], rfl, rfl, rfl, rfl, trivial, by kernel_rfl, fun ext => ?_⟩
      ·refine TL.buildSlice hF rfl (cs := #[]) (e := 3) (fun w => by kernel_rfl) rfl (fun b65 => ?_)
       refine TL.finD ?_
       refine DH.pure (i := 5) [(65, _, some 0)] rfl rfl rfl rfl ⟨⟨rfl, rfl, rfl⟩, trivial⟩ (fun _ ext => TL.assign hF rfl rfl TL.fin) ?_
       refine DH.pure (i := 6) [(66, _, some 1)] rfl rfl rfl rfl ⟨⟨rfl, rfl, rfl⟩, trivial⟩ (fun _ ext => TL.assign hF rfl rfl TL.fin) ?_
       refine DH.heavy 2 [] (by kernel_rfl) (by kernel_rfl) (by kernel_rfl) (by kernel_rfl) rfl rfl rfl rfl trivial (by kernel_rfl) (fun ext => ?_)
       refine TL.buildSlice hF rfl (cs := #[]) (e := 3) (fun w => by kernel_rfl) rfl (fun b67 => ?_)
       refine TL.finD ?_
       refine DH.pure (i := 7) [(67, _, some 2)] rfl rfl rfl rfl ⟨⟨rfl, rfl, rfl⟩, trivial⟩ (fun _ ext => TL.assign hF rfl rfl TL.fin) ?_
       refine DH.done [(15, _), (67, _), (14, _), (13, _), (65, _), (69, _), (66, _), (68, _)] [_] (by kernel_rfl) (by kernel_rfl) (by kernel_rfl) (by kernel_rfl) rfl rfl ?_
       refine TL.assign hF rfl rfl ?_
       refine TL.nil ?_
       refine TQ.pick [1, 3, 0, 2] [_, _, _, _] rfl rfl rfl ?_
       exact TQ.cut (b65, b66, b67, b69) trivial ⟨rfl, rfl, rfl, rfl, rfl, rfl, rfl, rfl, rfl, rfl, trivial⟩ rfl
      ·refine TL.buildSlice hF rfl (cs := #[]) (e := 3) (fun w => by kernel_rfl) rfl (fun b67 => ?_)
       refine TL.finD ?_
       refine DH.heavy 0 [] (by kernel_rfl) (by kernel_rfl) (by kernel_rfl) (by kernel_rfl) rfl rfl rfl rfl trivial (by kernel_rfl) (fun ext => ?_)
       refine TL.buildSlice hF rfl (cs := #[]) (e := 3) (fun w => by kernel_rfl) rfl (fun b65 => ?_)
       refine TL.finD ?_
       refine DH.pure (i := 5) [(65, _, some 0)] rfl rfl rfl rfl ⟨⟨rfl, rfl, rfl⟩, trivial⟩ (fun _ ext => TL.assign hF rfl rfl TL.fin) ?_
       refine DH.pure (i := 6) [(66, _, some 1)] rfl rfl rfl rfl ⟨⟨rfl, rfl, rfl⟩, trivial⟩ (fun _ ext => TL.assign hF rfl rfl TL.fin) ?_
       refine DH.pure (i := 7) [(67, _, some 2)] rfl rfl rfl rfl ⟨⟨rfl, rfl, rfl⟩, trivial⟩ (fun _ ext => TL.assign hF rfl rfl TL.fin) ?_
       refine DH.done [(15, _), (14, _), (13, _), (65, _), (67, _), (69, _), (66, _), (68, _)] [_] (by kernel_rfl) (by kernel_rfl) (by kernel_rfl) (by kernel_rfl) rfl rfl ?_
       refine TL.assign hF rfl rfl ?_
       refine TL.nil ?_
       refine TQ.pick [0, 3, 1, 2] [_, _, _, _] rfl rfl rfl ?_
       exact TQ.cut (b65, b66, b67, b69) trivial ⟨rfl, rfl, rfl, rfl, rfl, rfl, rfl, rfl, rfl, rfl, trivial⟩ rfl
    ·refine TL.buildSlice hF rfl (cs := #[]) (e := 3) (fun w => by kernel_rfl) rfl (fun b67 => ?_)
     refine TL.finK trivial ?_
     refine DH.heavy3 (h1 := 0) (h2 := 1) (h3 := 4) (by kernel_rfl) (by kernel_rfl) (by kernel_rfl) (by kernel_rfl) ⟨_, _, [], rfl, rfl, rfl, rfl, trivial, by kernel_rfl, fun ext => ?_⟩ ⟨_, _, [], rfl, rfl, rfl, rfl, trivial, by kernel_rfl, fun ext => ?_⟩ ⟨_, _, [(68, _, some 3)], rfl, rfl, rfl, rfl, ⟨⟨rfl, rfl, rfl⟩, trivial⟩, by kernel_rfl, fun ext => ?_⟩
     ·refine TL.buildSlice hF rfl (cs := #[]) (e := 3) (fun w => by kernel_rfl) rfl (fun b65 => ?_)
      refine TL.finD ?_
      refine DH.pure (i := 5) [(65, _, some 0)] rfl rfl rfl rfl ⟨⟨rfl, rfl, rfl⟩, trivial⟩ (fun _ ext => TL.assign hF rfl rfl TL.fin) ?_
      refine DH.heavy2 (h1 := 1) (h2 := 4) (by kernel_rfl) (by kernel_rfl) (by kernel_rfl) (by kernel_rfl) ⟨_, _, [], rfl, rfl, rfl, rfl, trivial, by kernel_rfl, fun ext => ?_⟩ ⟨_, _, [(68, _, some 3)], rfl, rfl, rfl, rfl, ⟨⟨rfl, rfl, rfl⟩, trivial⟩, by kernel_rfl, fun ext => ?_⟩
      ·refine TL.buildSlice hF rfl (cs := #[]) (e := 3) (fun w => by kernel_rfl) rfl (fun b66 => ?_)
       refine TL.finD ?_
       refine DH.pure (i := 6) [(66, _, some 1)] rfl rfl rfl rfl ⟨⟨rfl, rfl, rfl⟩, trivial⟩ (fun _ ext => TL.assign hF rfl rfl TL.fin) ?_
       refine DH.pure (i := 7) [(67, _, some 2)] rfl rfl rfl rfl ⟨⟨rfl, rfl, rfl⟩, trivial⟩ (fun _ ext => TL.assign hF rfl rfl TL.fin) ?_
       refine DH.heavy 4 [(68, _, some 3)] (by kernel_rfl) (by kernel_rfl) (by kernel_rfl) (by kernel_rfl) rfl rfl rfl rfl ⟨⟨rfl, rfl, rfl⟩, trivial⟩ (by kernel_rfl) (fun ext => ?_)
       refine TL.makeSlice hF rfl rfl rfl (by omega) (by omega) rfl (fun b69 => ?_)
       rw [intC_zero]
       refine TL.finD ?_
       refine DH.done [(69, _), (15, _), (14, _), (66, _), (13, _), (65, _), (67, _), (68, _)] [_] (by kernel_rfl) (by kernel_rfl) (by kernel_rfl) (by kernel_rfl) rfl rfl ?_
       refine TL.assign hF rfl rfl ?_
       refine TL.nil ?_
       refine TQ.pick [2, 1, 3, 0] [_, _, _, _] rfl rfl rfl ?_
       exact TQ.cut (b65, b66, b67, b69) trivial ⟨rfl, rfl, rfl, rfl, rfl, rfl, rfl, rfl, rfl, rfl, trivial⟩ rfl
      ·refine TL.makeSlice hF rfl rfl rfl (by omega) (by omega) rfl (fun b69 => ?_)
       rw [intC_zero]
       refine TL.finD ?_
       refine DH.heavy 1 [] (by kernel_rfl) (by kernel_rfl) (by kernel_rfl) (by kernel_rfl) rfl rfl rfl rfl trivial (by kernel_rfl) (fun ext => ?_)
       refine TL.buildSlice hF rfl (cs := #[]) (e := 3) (fun w => by kernel_rfl) rfl (fun b66 => ?_)
       refine TL.finD ?_
       refine DH.pure (i := 6) [(66, _, some 1)] rfl rfl rfl rfl ⟨⟨rfl, rfl, rfl⟩, trivial⟩ (fun _ ext => TL.assign hF rfl rfl TL.fin) ?_
       refine DH.pure (i := 7) [(67, _, some 2)] rfl rfl rfl rfl ⟨⟨rfl, rfl, rfl⟩, trivial⟩ (fun _ ext => TL.assign hF rfl rfl TL.fin) ?_
       refine DH.done [(15, _), (14, _), (66, _), (69, _), (13, _), (65, _), (67, _), (68, _)] [_] (by kernel_rfl) (by kernel_rfl) (by kernel_rfl) (by kernel_rfl) rfl rfl ?_
       refine TL.assign hF rfl rfl ?_
       refine TL.nil ?_
       refine TQ.pick [2, 0, 3, 1] [_, _, _, _] rfl rfl rfl ?_
       exact TQ.cut (b65, b66, b67, b69) trivial ⟨rfl, rfl, rfl, rfl, rfl, rfl, rfl, rfl, rfl, rfl, trivial⟩ rfl
     ·refine TL.buildSlice hF rfl (cs := #[]) (e := 3) (fun w => by kernel_rfl) rfl (fun b66 => ?_)
      refine TL.finD ?_
      refine DH.heavy2 (h1 := 0) (h2 := 4) (by kernel_rfl) (by kernel_rfl) (by kernel_rfl) (by kernel_rfl) ⟨_, _, [], rfl, rfl, rfl, rfl, trivial, by kernel_rfl, fun ext => ?_⟩ ⟨_, _, [(68, _, some 3)], rfl, rfl, rfl, rfl, ⟨⟨rfl, rfl, rfl⟩, trivial⟩, by kernel_rfl, fun ext => ?_⟩
      ·refine TL.buildSlice hF rfl (cs := #[]) (e := 3) (fun w => by kernel_rfl) rfl (fun b65 => ?_)
       refine TL.finD ?_
       refine DH.pure (i := 5) [(65, _, some 0)] rfl rfl rfl rfl ⟨⟨rfl, rfl, rfl⟩, trivial⟩ (fun _ ext => TL.assign hF rfl rfl TL.fin) ?_
       refine DH.pure (i := 6) [(66, _, some 1)] rfl rfl rfl rfl ⟨⟨rfl, rfl, rfl⟩, trivial⟩ (fun _ ext => TL.assign hF rfl rfl TL.fin) ?_
       refine DH.pure (i := 7) [(67, _, some 2)] rfl rfl rfl rfl ⟨⟨rfl, rfl, rfl⟩, trivial⟩ (fun _ ext => TL.assign hF rfl rfl TL.fin) ?_
       refine DH.heavy 4 [(68, _, some 3)] (by kernel_rfl) (by kernel_rfl) (by kernel_rfl) (by kernel_rfl) rfl rfl rfl rfl ⟨⟨rfl, rfl, rfl⟩, trivial⟩ (by kernel_rfl) (fun ext => ?_)
       refine TL.makeSlice hF rfl rfl rfl (by omega) (by omega) rfl (fun b69 => ?_)
       rw [intC_zero]
       refine TL.finD ?_
       refine DH.done [(69, _), (15, _), (14, _), (13, _), (65, _), (66, _), (67, _), (68, _)] [_] (by kernel_rfl) (by kernel_rfl) (by kernel_rfl) (by kernel_rfl) rfl rfl ?_
       refine TL.assign hF rfl rfl ?_
       refine TL.nil ?_
       refine TQ.pick [1, 2, 3, 0] [_, _, _, _] rfl rfl rfl ?_
       exact TQ.cut (b65, b66, b67, b69) trivial ⟨rfl, rfl, rfl, rfl, rfl, rfl, rfl, rfl, rfl, rfl, trivial⟩ rfl
      ·refine TL.makeSlice hF rfl rfl rfl (by omega) (by omega) rfl (fun b69 => ?_)
       rw [intC_zero]
       refine TL.finD ?_
       refine DH.heavy 0 [] (by kernel_rfl) (by kernel_rfl) (by kernel_rfl) (by kernel_rfl) rfl rfl rfl rfl trivial (by kernel_rfl) (fun ext => ?_)
       refine TL.buildSlice hF rfl (cs := #[]) (e := 3) (fun w => by kernel_rfl) rfl (fun b65 => ?_)
       refine TL.finD ?_
       refine DH.pure (i := 5) [(65, _, some 0)] rfl rfl rfl rfl ⟨⟨rfl, rfl, rfl⟩, trivial⟩ (fun _ ext => TL.assign hF rfl rfl TL.fin) ?_
       refine DH.pure (i := 6) [(66, _, some 1)] rfl rfl rfl rfl ⟨⟨rfl, rfl, rfl⟩, trivial⟩ (fun _ ext => TL.assign hF rfl rfl TL.fin) ?_
       refine DH.pure (i := 7) [(67, _, some 2)] rfl rfl rfl rfl ⟨⟨rfl, rfl, rfl⟩, trivial⟩ (fun _ ext => TL.assign hF rfl rfl TL.fin) ?_
       refine DH.done [(15, _), (14, _), (13, _), (65, _), (69, _), (66, _), (67, _), (68, _)] [_] (by kernel_rfl) (by kernel_rfl) (by kernel_rfl) (by kernel_rfl) rfl rfl ?_
       refine TL.assign hF rfl rfl ?_
       refine TL.nil ?_
       refine TQ.pick [0, 2, 3, 1] [_, _, _, _] rfl rfl rfl ?_
       exact TQ.cut (b65, b66, b67, b69) trivial ⟨rfl, rfl, rfl, rfl, rfl, rfl, rfl, rfl, rfl, rfl, trivial⟩ rfl
     ·refine TL.makeSlice hF rfl rfl rfl (by omega) (by omega) rfl (fun b69 => ?_)
      rw [intC_zero]
      refine TL.finD ?_
      refine DH.heavy2 (h1 := 0) (h2 := 1) (by kernel_rfl) (by kernel_rfl) (by kernel_rfl) (by kernel_rfl) ⟨_, _, [], rfl, rfl, rfl, rfl, trivial, by kernel_rfl, fun ext => ?_⟩ ⟨_, _, [], rfl, rfl, rfl, rfl, trivial, by kernel_rfl, fun ext => ?_⟩
      ·refine TL.buildSlice hF rfl (cs := #[]) (e := 3) (fun w => by kernel_rfl) rfl (fun b65 => ?_)
       refine TL.finD ?_
       refine DH.pure (i := 5) [(65, _, some 0)] rfl rfl rfl rfl ⟨⟨rfl, rfl, rfl⟩, trivial⟩ (fun _ ext => TL.assign hF rfl rfl TL.fin) ?_
       refine DH.heavy 1 [] (by kernel_rfl) (by kernel_rfl) (by kernel_rfl) (by kernel_rfl) rfl rfl rfl rfl trivial (by kernel_rfl) (fun ext => ?_)
       refine TL.buildSlice hF rfl (cs := #[]) (e := 3) (fun w => by kernel_rfl) rfl (fun b66 => ?_)
       refine TL.finD ?_
       refine DH.pure (i := 6) [(66, _, some 1)] rfl rfl rfl rfl ⟨⟨rfl, rfl, rfl⟩, trivial⟩ (fun _ ext => TL.assign hF rfl rfl TL.fin) ?_
       refine DH.pure (i := 7) [(67, _, some 2)] rfl rfl rfl rfl ⟨⟨rfl, rfl, rfl⟩, trivial⟩ (fun _ ext => TL.assign hF rfl rfl TL.fin) ?_
       refine DH.done [(15, _), (14, _), (66, _), (13, _), (65, _), (69, _), (67, _), (68, _)] [_] (by kernel_rfl) (by kernel_rfl) (by kernel_rfl) (by kernel_rfl) rfl rfl ?_
       refine TL.assign hF rfl rfl ?_
       refine TL.nil ?_
       refine TQ.pick [1, 0, 3, 2] [_, _, _, _] rfl rfl rfl ?_
       exact TQ.cut (b65, b66, b67, b69) trivial ⟨rfl, rfl, rfl, rfl, rfl, rfl, rfl, rfl, rfl, rfl, trivial⟩ rfl
      ·refine TL.buildSlice hF rfl (cs := #[]) (e := 3) (fun w => by kernel_rfl) rfl (fun b66 => ?_)
       refine TL.finD ?_
       refine DH.heavy 0 [] (by kernel_rfl) (by kernel_rfl) (by kernel_rfl) (by kernel_rfl) rfl rfl rfl rfl trivial (by kernel_rfl) (fun ext => ?_)
       refine TL.buildSlice hF rfl (cs := #[]) (e := 3) (fun w => by kernel_rfl) rfl (fun b65 => ?_)
       refine TL.finD ?_
       refine DH.pure (i := 5) [(65, _, some 0)] rfl rfl rfl rfl ⟨⟨rfl, rfl, rfl⟩, trivial⟩ (fun _ ext => TL.assign hF rfl rfl TL.fin) ?_
       refine DH.pure (i := 6) [(66, _, some 1)] rfl rfl rfl rfl ⟨⟨rfl, rfl, rfl⟩, trivial⟩ (fun _ ext => TL.assign hF rfl rfl TL.fin) ?_
       refine DH.pure (i := 7) [(67, _, some 2)] rfl rfl rfl rfl ⟨⟨rfl, rfl, rfl⟩, trivial⟩ (fun _ ext => TL.assign hF rfl rfl TL.fin) ?_
       refine DH.done [(15, _), (14, _), (13, _), (65, _), (66, _), (69, _), (67, _), (68, _)] [_] (by kernel_rfl) (by kernel_rfl) (by kernel_rfl) (by kernel_rfl) rfl rfl ?_
       refine TL.assign hF rfl rfl ?_
       refine TL.nil ?_
       refine TQ.pick [0, 1, 3, 2] [_, _, _, _] rfl rfl rfl ?_
       exact TQ.cut (b65, b66, b67, b69) trivial ⟨rfl, rfl, rfl, rfl, rfl, rfl, rfl, rfl, rfl, rfl, trivial⟩ rfl
    ·refine TL.makeSlice hF rfl rfl rfl (by omega) (by omega) rfl (fun b69 => ?_)
     rw [intC_zero]
     refine TL.finK trivial ?_
     refine DH.heavy3 (h1 := 0) (h2 := 1) (h3 := 2) (by kernel_rfl) (by kernel_rfl) (by kernel_rfl) (by kernel_rfl) ⟨_, _, [], rfl, rfl, rfl, rfl, trivial, by kernel_rfl, fun ext => ?_⟩ ⟨_, _, [], rfl, rfl, rfl, rfl, trivial, by kernel_rfl, fun ext => ?_⟩ ⟨_, _, [], rfl, rfl, rfl, rfl, trivial, by kernel_rfl, fun ext => ?_⟩
     ·refine TL.buildSlice hF rfl (cs := #[]) (e := 3) (fun w => by kernel_rfl) rfl (fun b65 => ?_)
      refine TL.finD ?_
      refine DH.pure (i := 5) [(65, _, some 0)] rfl rfl rfl rfl ⟨⟨rfl, rfl, rfl⟩, trivial⟩ (fun _ ext => TL.assign hF rfl rfl TL.fin) ?_
      refine DH.heavy2 (h1 := 1) (h2 := 2) (by kernel_rfl) (by kernel_rfl) (by kernel_rfl) (by kernel_rfl) ⟨_, _, [], rfl, rfl, rfl, rfl, trivial, by kernel_rfl, fun ext => ?_⟩ ⟨_, _, [], rfl, rfl, rfl, rfl, trivial, by kernel_rfl, fun ext => ?_⟩
      ·refine TL.buildSlice hF rfl (cs := #[]) (e := 3) (fun w => by kernel_rfl) rfl (fun b66 => ?_)
       refine TL.finD ?_
       refine DH.pure (i := 6) [(66, _, some 1)] rfl rfl rfl rfl ⟨⟨rfl, rfl, rfl⟩, trivial⟩ (fun _ ext => TL.assign hF rfl rfl TL.fin) ?_
       refine DH.heavy 2 [] (by kernel_rfl) (by kernel_rfl) (by kernel_rfl) (by kernel_rfl) rfl rfl rfl rfl trivial (by kernel_rfl) (fun ext => ?_)
       refine TL.buildSlice hF rfl (cs := #[]) (e := 3) (fun w => by kernel_rfl) rfl (fun b67 => ?_)
       refine TL.finD ?_
       refine DH.pure (i := 7) [(67, _, some 2)] rfl rfl rfl rfl ⟨⟨rfl, rfl, rfl⟩, trivial⟩ (fun _ ext => TL.assign hF rfl rfl TL.fin) ?_
       refine DH.done [(15, _), (67, _), (14, _), (66, _), (13, _), (65, _), (69, _), (68, _)] [_] (by kernel_rfl) (by kernel_rfl) (by kernel_rfl) (by kernel_rfl) rfl rfl ?_
       refine TL.assign hF rfl rfl ?_
       refine TL.nil ?_
       refine TQ.pick [2, 1, 0, 3] [_, _, _, _] rfl rfl rfl ?_
       exact TQ.cut (b65, b66, b67, b69) trivial ⟨rfl, rfl, rfl, rfl, rfl, rfl, rfl, rfl, rfl, rfl, trivial⟩ rfl
      ·refine TL.buildSlice hF rfl (cs := #[]) (e := 3) (fun w => by kernel_rfl) rfl (fun b67 => ?_)
       refine TL.finD ?_
       refine DH.heavy 1 [] (by kernel_rfl) (by kernel_rfl) (by kernel_rfl) (by kernel_rfl) rfl rfl rfl rfl trivial (by kernel_rfl) (fun ext => ?_)
       refine TL.buildSlice hF rfl (cs := #[]) (e := 3) (fun w => by kernel_rfl) rfl (fun b66 => ?_)
       refine TL.finD ?_
       refine DH.pure (i := 6) [(66, _, some 1)] rfl rfl rfl rfl ⟨⟨rfl, rfl, rfl⟩, trivial⟩ (fun _ ext => TL.assign hF rfl rfl TL.fin) ?_
       refine DH.pure (i := 7) [(67, _, some 2)] rfl rfl rfl rfl ⟨⟨rfl, rfl, rfl⟩, trivial⟩ (fun _ ext => TL.assign hF rfl rfl TL.fin) ?_
       refine DH.done [(15, _), (14, _), (66, _), (67, _), (13, _), (65, _), (69, _), (68, _)] [_] (by kernel_rfl) (by kernel_rfl) (by kernel_rfl) (by kernel_rfl) rfl rfl ?_
       refine TL.assign hF rfl rfl ?_
       refine TL.nil ?_
       refine TQ.pick [2, 0, 1, 3] [_, _, _, _] rfl rfl rfl ?_
       exact TQ.cut (b65, b66, b67, b69) trivial ⟨rfl, rfl, rfl, rfl, rfl, rfl, rfl, rfl, rfl, rfl, trivial⟩ rfl
     ·refine TL.buildSlice hF rfl (cs := #[]) (e := 3) (fun w => by kernel_rfl) rfl (fun b66 => ?_)
      refine TL.finD ?_
      refine DH.heavy2 (h1 := 0) (h2 := 2) (by kernel_rfl) (by kernel_rfl) (by kernel_rfl) (by kernel_rfl) ⟨_, _, [], rfl, rfl, rfl, rfl, trivial, by kernel_rfl, fun ext => ?_⟩ ⟨_, _, [], rfl, rfl, rfl, rfl, trivial, by kernel_rfl, fun ext => ?_⟩
      ·refine TL.buildSlice hF rfl (cs := #[]) (e := 3) (fun w => by kernel_rfl) rfl (fun b65 => ?_)
       refine TL.finD ?_
       refine DH.pure (i := 5) [(65, _, some 0)] rfl rfl rfl rfl ⟨⟨rfl, rfl, rfl⟩, trivial⟩ (fun _ ext => TL.assign hF rfl rfl TL.fin) ?_
       refine DH.pure (i := 6) [(66, _, some 1)] rfl rfl rfl rfl ⟨⟨rfl, rfl, rfl⟩, trivial⟩ (fun _ ext => TL.assign hF rfl rfl TL.fin) ?_
       refine DH.heavy 2 [] (by kernel_rfl) (by kernel_rfl) (by kernel_rfl) (by kernel_rfl) rfl rfl rfl rfl trivial (by kernel_rfl) (fun ext => ?_)
       refine TL.buildSlice hF rfl (cs := #[]) (e := 3) (fun w => by kernel_rfl) rfl (fun b67 => ?_)
       refine TL.finD ?_
       refine DH.pure (i := 7) [(67, _, some 2)] rfl rfl rfl rfl ⟨⟨rfl, rfl, rfl⟩, trivial⟩ (fun _ ext => TL.assign hF rfl rfl TL.fin) ?_
       refine DH.done [(15, _), (67, _), (14, _), (13, _), (65, _), (66, _), (69, _), (68, _)] [_] (by kernel_rfl) (by kernel_rfl) (by kernel_rfl) (by kernel_rfl) rfl rfl ?_
       refine TL.assign hF rfl rfl ?_
       refine TL.nil ?_
       refine TQ.pick [1, 2, 0, 3] [_, _, _, _] rfl rfl rfl ?_
       exact TQ.cut (b65, b66, b67, b69) trivial ⟨rfl, rfl, rfl, rfl, rfl, rfl, rfl, rfl, rfl, rfl, trivial⟩ rfl
      ·refine TL.buildSlice hF rfl (cs := #[]) (e := 3) (fun w => by kernel_rfl) rfl (fun b67 => ?_)
       refine TL.finD ?_
       refine DH.heavy 0 [] (by kernel_rfl) (by kernel_rfl) (by kernel_rfl) (by kernel_rfl) rfl rfl rfl rfl trivial (by kernel_rfl) (fun ext => ?_)
       refine TL.buildSlice hF rfl (cs := #[]) (e := 3) (fun w => by kernel_rfl) rfl (fun b65 => ?_)
       refine TL.finD ?_
       refine DH.pure (i := 5) [(65, _, some 0)] rfl rfl rfl rfl ⟨⟨rfl, rfl, rfl⟩, trivial⟩ (fun _ ext => TL.assign hF rfl rfl TL.fin) ?_
       refine DH.pure (i := 6) [(66, _, some 1)] rfl rfl rfl rfl ⟨⟨rfl, rfl, rfl⟩, trivial⟩ (fun _ ext => TL.assign hF rfl rfl TL.fin) ?_
       refine DH.pure (i := 7) [(67, _, some 2)] rfl rfl rfl rfl ⟨⟨rfl, rfl, rfl⟩, trivial⟩ (fun _ ext => TL.assign hF rfl rfl TL.fin) ?_
       refine DH.done [(15, _), (14, _), (13, _), (65, _), (67, _), (66, _), (69, _), (68, _)] [_] (by kernel_rfl) (by kernel_rfl) (by kernel_rfl) (by kernel_rfl) rfl rfl ?_
       refine TL.assign hF rfl rfl ?_
       refine TL.nil ?_
       refine TQ.pick [0, 2, 1, 3] [_, _, _, _] rfl rfl rfl ?_
       exact TQ.cut (b65, b66, b67, b69) trivial ⟨rfl, rfl, rfl, rfl, rfl, rfl, rfl, rfl, rfl, rfl, trivial⟩ rfl
     ·refine TL.buildSlice hF rfl (cs := #[]) (e := 3) (fun w => by kernel_rfl) rfl (fun b67 => ?_)
      refine TL.finD ?_
      refine DH.heavy2 (h1 := 0) (h2 := 1) (by kernel_rfl) (by kernel_rfl) (by kernel_rfl) (by kernel_rfl) ⟨_, _, [], rfl, rfl, rfl, rfl, trivial, by kernel_rfl, fun ext => ?_⟩ ⟨_, _, [], rfl, rfl, rfl, rfl, trivial, by kernel_rfl, fun ext => ?_⟩
      ·refine TL.buildSlice hF rfl (cs := #[]) (e := 3) (fun w => by kernel_rfl) rfl (fun b65 => ?_)
       refine TL.finD ?_
       refine DH.pure (i := 5) [(65, _, some 0)] rfl rfl rfl rfl ⟨⟨rfl, rfl, rfl⟩, trivial⟩ (fun _ ext => TL.assign hF rfl rfl TL.fin) ?_
       refine DH.heavy 1 [] (by kernel_rfl) (by kernel_rfl) (by kernel_rfl) (by kernel_rfl) rfl rfl rfl rfl trivial (by kernel_rfl) (fun ext => ?_)
       refine TL.buildSlice hF rfl (cs := #[]) (e := 3) (fun w => by kernel_rfl) rfl (fun b66 => ?_)
       refine TL.finD ?_
       refine DH.pure (i := 6) [(66, _, some 1)] rfl rfl rfl rfl ⟨⟨rfl, rfl, rfl⟩, trivial⟩ (fun _ ext => TL.assign hF rfl rfl TL.fin) ?_
       refine DH.pure (i := 7) [(67, _, some 2)] rfl rfl rfl rfl ⟨⟨rfl, rfl, rfl⟩, trivial⟩ (fun _ ext => TL.assign hF rfl rfl TL.fin) ?_
       refine DH.done [(15, _), (14, _), (66, _), (13, _), (65, _), (67, _), (69, _), (68, _)] [_] (by kernel_rfl) (by kernel_rfl) (by kernel_rfl) (by kernel_rfl) rfl rfl ?_
       refine TL.assign hF rfl rfl ?_
       refine TL.nil ?_
       refine TQ.pick [1, 0, 2, 3] [_, _, _, _] rfl rfl rfl ?_
       exact TQ.cut (b65, b66, b67, b69) trivial ⟨rfl, rfl, rfl, rfl, rfl, rfl, rfl, rfl, rfl, rfl, trivial⟩ rfl
      ·refine TL.buildSlice hF rfl (cs := #[]) (e := 3) (fun w => by kernel_rfl) rfl (fun b66 => ?_)
       refine TL.finD ?_
       refine DH.heavy 0 [] (by kernel_rfl) (by kernel_rfl) (by kernel_rfl) (by kernel_rfl) rfl rfl rfl rfl trivial (by kernel_rfl) (fun ext => ?_)
       refine TL.buildSlice hF rfl (cs := #[]) (e := 3) (fun w => by kernel_rfl) rfl (fun b65 => ?_)
       refine TL.finD ?_
       refine DH.pure (i := 5) [(65, _, some 0)] rfl rfl rfl rfl ⟨⟨rfl, rfl, rfl⟩, trivial⟩ (fun _ ext => TL.assign hF rfl rfl TL.fin) ?_
       refine DH.pure (i := 6) [(66, _, some 1)] rfl rfl rfl rfl ⟨⟨rfl, rfl, rfl⟩, trivial⟩ (fun _ ext => TL.assign hF rfl rfl TL.fin) ?_
       refine DH.pure (i := 7) [(67, _, some 2)] rfl rfl rfl rfl ⟨⟨rfl, rfl, rfl⟩, trivial⟩ (fun _ ext => TL.assign hF rfl rfl TL.fin) ?_
       refine DH.done [(15, _), (14, _), (13, _), (65, _), (66, _), (67, _), (69, _), (68, _)] [_] (by kernel_rfl) (by kernel_rfl) (by kernel_rfl) (by kernel_rfl) rfl rfl ?_
       refine TL.assign hF rfl rfl ?_
       refine TL.nil ?_
       refine TQ.pick [0, 1, 2, 3] [_, _, _, _] rfl rfl rfl ?_
       exact TQ.cut (b65, b66, b67, b69) trivial ⟨rfl, rfl, rfl, rfl, rfl, rfl, rfl, rfl, rfl, rfl, trivial⟩ rfl
   ·rintro ⟨ba, bb, bc, bd⟩ _
    dsimp only
    refine T.seq ?_
    refine T.seq ?_
    refine T.region ?_
    refine TL.assign hF rfl rfl ?_
    refine TL.nil ?_
    refine TQ.then_n ?_
    refine T.block ?_
    refine T.loop (ι := SmS) (fun z => z.k ≤ N ∧ z.xs.length = z.k ∧ z.bs.length = z.k ∧ Wd z.xs ∧ Wd z.bs ∧ OSl 3 1 (.slice z.aa z.k z.ac) z.k (ints z.xs) z.ag ∧ OSl 3 1 (.slice z.ba z.k z.bc) z.k (ints z.bs) z.bg ∧ OSl 3 1 (.slice z.ca z.k z.cc) z.k (ints (addX z.xs z.bs)) z.cg) (fun z => [(1, .slice b l.length d), (2, .slice e m.length g), (3, .int .i64 cell), (8, .bool false), (9, .slice oa bx.length oc), (10, .int .i64 (N : Int)), (13, .slice z.aa z.k z.ac), (14, .slice z.ba z.k z.bc), (15, .slice z.ca z.k z.cc), (16, .slice (some ⟨bd, 0, none⟩) N N), (17, .int .i64 (z.k : Int))]) (fun z => [z.ag, z.bg, z.cg, iseg bd N fun _ => 0]) (fun z => N - z.k) ⟨0, [], [], _, _, _, _, _, _, _, _, _⟩ ⟨Nat.zero_le _, rfl, rfl, fun _ h => by simp at h, fun _ h => by simp at h, osl_empty, osl_empty, osl_empty⟩ ⟨rfl, rfl, rfl, rfl, rfl, rfl, rfl, rfl, rfl, rfl, rfl, trivial⟩ rfl ?_
    rintro z ⟨hk, hla, hlb, hwa, hwb, ho1, ho2, ho3⟩
    refine T.seq ?_
    refine T.seq ?_
    refine T.region ?_
    refine TL.move hF rfl rfl ?_
    refine TL.move hF rfl rfl ?_
    refine TL.bin hF rfl rfl rfl rfl ?_
    refine TL.nil ?_
    refine TQ.then_n ?_
    first | refine T.cond_d rfl (fun ht72 => ?_) (fun ht72 => ?_) | refine T.cond _ rfl (fun ht72 => ?_) (fun ht72 => ?_)
    ·refine T.skip ?_
     refine TQ.then_n ?_
     refine T.seq ?_
     refine T.block ?_
     refine T.seq ?_
     refine T.region ?_
     refine TL.move hF rfl rfl ?_
     refine TL.move hF rfl rfl ?_
     refine TL.move hF rfl rfl ?_
     refine TL.callV hF (Nth_fn (z.k : Int) hy.ro hl) rfl rfl ?_
     refine TL.move hF rfl rfl ?_
     refine TL.addK hF rfl rfl (r := (wr (nthI l z.k + z.k))) (wrap_wr _) rfl ?_
     refine TL.buildSlice hF rfl (cs := #[.int .i64 (wr (nthI l z.k + z.k))]) (e := 3) (fun w => by kernel_rfl) rfl (fun b81 => ?_)
     refine TL.append hF 1 rfl rfl rfl ho1 (row_own (cs := [.int .i64 (wr (nthI l z.k + z.k))]) (e := 3) (by simp)).src rfl rfl (by simp [Value.oneCell']) (by omega) (by omega) rfl (fun pa pc pg ph => ?_)
     rw [← ints_app] at ph
     refine TL.move hF rfl rfl ?_
     refine TL.move hF rfl rfl ?_
     refine TL.move hF rfl rfl ?_
     refine TL.callV hF (Nth_fn (z.k : Int) hz.ro hm) rfl rfl ?_
     refine TL.buildSlice hF rfl (cs := #[.int .i64 (nthI m z.k)]) (e := 3) (fun w => by kernel_rfl) rfl (fun b87 => ?_)
     refine TL.append hF 3 rfl rfl rfl ho2 (row_own (cs := [.int .i64 (nthI m z.k)]) (e := 3) (by simp)).src rfl rfl (by simp [Value.oneCell']) (by omega) (by omega) rfl (fun qa qc qg qh => ?_)
     rw [← ints_app] at qh
     refine TL.assign hF rfl rfl ?_
     refine TL.assign hF rfl rfl ?_
     refine TL.nil ?_
     refine TQ.then_n ?_
     refine T.drawH 11 mixed ?_
     refine DH.pure (i := 0) [(15, _, none)] rfl rfl rfl rfl ⟨⟨rfl, by kernel_rfl⟩, trivial⟩ (fun _ ext => TL.move hF rfl rfl TL.fin) ?_
     refine DH.pure (i := 1) [(13, _, none)] rfl rfl rfl rfl ⟨⟨rfl, by kernel_rfl⟩, trivial⟩ (fun _ ext => TL.move hF rfl rfl TL.fin) ?_
     refine DH.pure (i := 2) [(17, _, none)] rfl rfl rfl rfl ⟨⟨rfl, by kernel_rfl⟩, trivial⟩ (fun _ ext => TL.move hF rfl rfl TL.fin) ?_
     refine DH.pure (i := 3) [(90, _, some 1), (91, _, some 2)] rfl rfl rfl rfl ⟨⟨rfl, rfl, rfl⟩, ⟨rfl, rfl, rfl⟩, trivial⟩ (fun _ ext => TL.indexAddr hF rfl rfl (OSl.row (S := S) (w0 := w0) (η := [pg]) ph List.mem_cons_self |>.adi (i := z.k) (by simp [ints]; omega)) (by omega) (by omega) rfl TL.fin) ?_
     refine DH.read (i := 4) [(92, _, some 3)] rfl rfl rfl rfl ⟨⟨rfl, rfl, rfl⟩, trivial⟩ (fun ext => TL.load hF rfl (osl_last ph hla (by simp)) rfl TL.fin) ?_
     refine DH.pure (i := 5) [(14, _, none)] rfl rfl rfl rfl ⟨⟨rfl, by kernel_rfl⟩, trivial⟩ (fun _ ext => TL.move hF rfl rfl TL.fin) ?_
     refine DH.pure (i := 6) [(17, _, none)] rfl rfl rfl rfl ⟨⟨rfl, by kernel_rfl⟩, trivial⟩ (fun _ ext => TL.move hF rfl rfl TL.fin) ?_
     refine DH.pure (i := 7) [(94, _, some 5), (95, _, some 6)] rfl rfl rfl rfl ⟨⟨rfl, rfl, rfl⟩, ⟨rfl, rfl, rfl⟩, trivial⟩ (fun _ ext => TL.indexAddr hF rfl rfl (OSl.row (S := S) (w0 := w0) (η := [qg]) qh List.mem_cons_self |>.adi (i := z.k) (by simp [ints]; omega)) (by omega) (by omega) rfl TL.fin) ?_
     refine DH.read (i := 8) [(96, _, some 7)] rfl rfl rfl rfl ⟨⟨rfl, rfl, rfl⟩, trivial⟩ (fun ext => TL.load hF rfl (osl_last qh hlb (by simp)) rfl TL.fin) ?_
     refine DH.pure (i := 9) [(93, _, some 4), (97, _, some 8)] rfl rfl rfl rfl ⟨⟨rfl, rfl, rfl⟩, ⟨rfl, rfl, rfl⟩, trivial⟩ (fun _ ext => TL.addK hF rfl rfl (r := wr ((wr (nthI l z.k + z.k)) + (nthI m z.k))) (wrap_wr _) rfl TL.fin) ?_
     refine DH.heavy 10 [(98, _, some 9)] (by kernel_rfl) (by kernel_rfl) (by kernel_rfl) (by kernel_rfl) rfl rfl rfl rfl ⟨⟨rfl, rfl, rfl⟩, trivial⟩ (by kernel_rfl) (fun ext => ?_)
     refine TL.buildSlice hF rfl (cs := #[.int .i64 (wr ((wr (nthI l z.k + z.k)) + (nthI m z.k)))]) (e := 3) (fun w => by kernel_rfl) rfl (fun b99 => ?_)
     refine TL.finD ?_
     refine DH.done [(99, _), (98, _), (97, _), (96, _), (95, _), (94, _), (93, _), (92, _), (91, _), (90, _), (89, _)] [_, _] (by kernel_rfl) (by kernel_rfl) (by kernel_rfl) (by kernel_rfl) rfl rfl ?_
     refine TL.append hF 5 rfl rfl rfl ho3 (row_own (cs := [.int .i64 (wr ((wr (nthI l z.k + z.k)) + (nthI m z.k)))]) (e := 3) (by simp)).src rfl rfl (by simp [Value.oneCell']) (by omega) (by omega) rfl (fun ta tc tg th => ?_)
     rw [← ints_app] at th
     refine TL.assign hF rfl rfl ?_
     refine TL.nil ?_
     refine TQ.block_n ?_
     refine TQ.then_n ?_
     refine T.region ?_
     refine TL.move hF rfl rfl ?_
     refine TL.add hF rfl rfl (by omega) (by omega) rfl ?_
     refine TL.assign hF rfl rfl ?_
     refine TL.nil ?_
     have e3 : addX z.xs z.bs ++ [(wr ((wr (nthI l z.k + z.k)) + (nthI m z.k)))] = addX (z.xs ++ [(wr (nthI l z.k + z.k))]) (z.bs ++ [(nthI m z.k)]) := (addX_app (by omega)).symm
     rw [e3] at th
     refine TQ.pop ?_
     refine TQ.pop ?_
     refine TQ.pop ?_
     exact TQ.round ⟨z.k + 1, z.xs ++ [(wr (nthI l z.k + z.k))], z.bs ++ [(nthI m z.k)], pa, pc, pg, qa, qc, qg, ta, tc, tg⟩ ⟨by dsimp only; omega, by simp [hla], by simp [hlb], wd_app hwa (wr_range _), wd_app hwb (nth_w hwm _), ph, qh, th⟩ (by dsimp only; omega) ⟨rfl, rfl, rfl, rfl, rfl, rfl, rfl, rfl, rfl, rfl, rfl, trivial⟩ rfl
    ·refine T.exit ?_
     refine TQ.then_x ?_
     refine TQ.then_x ?_
     refine TQ.block_x ?_
     refine TQ.then_n ?_
     refine T.seq ?_
     refine T.region ?_
     refine TL.move hF rfl rfl ?_
     refine TL.move hF rfl rfl ?_
     refine TL.move hF rfl rfl ?_
     have hkN : z.k = N := by have h : ¬ (z.k : Int) < (N : Int) := ht72; omega
     subst hkN
     obtain ⟨p, hp, hpN⟩ := turn_ex cell hn1
     refine TL.callV hF (Turn_nat hn60 hp) rfl rfl ?_
     refine TL.indexAddr hF rfl rfl ⟨_, rfl, rfl⟩ (by omega) (by omega) rfl ?_
     refine TL.storeI hF 3 rfl rfl rfl rfl (by simp [intC_len]; omega) ?_
     refine TL.nil ?_
     refine TQ.then_n ?_
     refine T.seq ?_
     refine T.region ?_
     refine TL.move hF rfl rfl ?_
     refine TL.move hF rfl rfl ?_
     refine TL.heap (η' := [z.ag, z.bg, z.cg, iseg bd z.k fun i => if i = p then 1 else 0]) (congrArg (fun q : Seg => [z.ag, z.bg, z.cg, q]) ((iseg_updU (b := bd) (n := z.k) (f := fun _ => 0) (v := 1) (k := 0 + ((p : Nat) : Int).toNat * 1) (j := p) (by simp)).trans rfl)) ?_
     refine TL.freeze ([z.ag, z.bg, z.cg, iseg bd z.k fun i => if i = p then 1 else 0]) rfl (fun S2 w2 hz2 => ?_)
     replace hb := hb.frz hz2
     replace hbx := hbx.old hz2
     replace hy := hy.old hz2
     replace hz := hz.old hz2
     have kA : Row S2 w2 [] z.aa (ints z.xs) := (ho1.row (η := [z.ag, z.bg, z.cg, iseg bd z.k fun i => if i = p then 1 else 0]) (by simp)).frz hz2
     have kB : Row S2 w2 [] z.ba (ints z.bs) := (ho2.row (η := [z.ag, z.bg, z.cg, iseg bd z.k fun i => if i = p then 1 else 0]) (by simp)).frz hz2
     have kC : Row S2 w2 [] z.ca (ints (addX z.xs z.bs)) := (ho3.row (η := [z.ag, z.bg, z.cg, iseg bd z.k fun i => if i = p then 1 else 0]) (by simp)).frz hz2
     have kD : Row S2 w2 [] (some ⟨bd, 0, none⟩) (ints (oneX z.k p)) := (row_own (η := [z.ag, z.bg, z.cg, iseg bd z.k fun i => if i = p then 1 else 0]) (cs := ints (oneX z.k p)) (e := 3) (by simp [oneX, ints, intC, Function.comp_def])).frz hz2
     have hlc : (addX z.xs z.bs).length = z.k := by rw [addX_len (by omega), hla]
     clear ho1 ho2 ho3
     refine TL.call hF (sums_box' hB hla hwa hbx.ro kA.ro) rfl rfl ?_
     rintro _ _ ⟨a18, c18, segs, rfl, h18, rfl⟩
     refine TL.freeze (segs) rfl (fun S3 w3 hz3 => ?_)
     replace hb := hb.frz hz3
     replace hbx := hbx.old hz3
     replace hy := hy.old hz3
     replace hz := hz.old hz3
     replace kA := kA.old hz3
     replace kB := kB.old hz3
     replace kC := kC.old hz3
     replace kD := kD.old hz3
     replace h18 := h18.frz hz3
     refine TL.move hF rfl rfl ?_
     refine TL.extract hF rfl rfl rfl ?_
     refine TL.extract hF rfl rfl rfl ?_
     refine TL.assign hF rfl rfl ?_
     refine TL.assign hF rfl rfl ?_
     refine TL.nil ?_
     refine TQ.then_n ?_
     refine T.seq ?_
     refine T.region ?_
     refine TL.move hF rfl rfl ?_
     refine TL.move hF rfl rfl ?_
     refine TL.call hF (sums_box' hB hlb hwb hbx.ro kB.ro) rfl rfl ?_
     rintro _ _ ⟨a20, c20, segs, rfl, h20, rfl⟩
     refine TL.freeze (segs) rfl (fun S4 w4 hz4 => ?_)
     replace hb := hb.frz hz4
     replace hbx := hbx.old hz4
     replace hy := hy.old hz4
     replace hz := hz.old hz4
     replace kA := kA.old hz4
     replace kB := kB.old hz4
     replace kC := kC.old hz4
     replace kD := kD.old hz4
     replace h18 := h18.old hz4
     replace h20 := h20.frz hz4
     refine TL.move hF rfl rfl ?_
     refine TL.extract hF rfl rfl rfl ?_
     refine TL.extract hF rfl rfl rfl ?_
     refine TL.assign hF rfl rfl ?_
     refine TL.assign hF rfl rfl ?_
     refine TL.nil ?_
     refine TQ.then_n ?_
     refine T.seq ?_
     refine T.region ?_
     refine TL.move hF rfl rfl ?_
     refine TL.move hF rfl rfl ?_
     refine TL.call hF (sums_box' hB hlc (addX_wd _ _) hbx.ro kC.ro) rfl rfl ?_
     rintro _ _ ⟨a22, c22, segs, rfl, h22, rfl⟩
     refine TL.freeze (segs) rfl (fun S5 w5 hz5 => ?_)
     replace hb := hb.frz hz5
     replace hbx := hbx.old hz5
     replace hy := hy.old hz5
     replace hz := hz.old hz5
     replace kA := kA.old hz5
     replace kB := kB.old hz5
     replace kC := kC.old hz5
     replace kD := kD.old hz5
     replace h18 := h18.old hz5
     replace h20 := h20.old hz5
     replace h22 := h22.frz hz5
     refine TL.move hF rfl rfl ?_
     refine TL.extract hF rfl rfl rfl ?_
     refine TL.extract hF rfl rfl rfl ?_
     refine TL.assign hF rfl rfl ?_
     refine TL.assign hF rfl rfl ?_
     refine TL.nil ?_
     refine TQ.then_n ?_
     refine T.seq ?_
     refine T.region ?_
     refine TL.move hF rfl rfl ?_
     refine TL.move hF rfl rfl ?_
     refine TL.call hF (difs_box' hB (by rw [sumX_len, hla]) (sumX_wd _ _) hbx.ro h18.ro) rfl rfl ?_
     rintro _ _ ⟨a24, c24, segs, rfl, h24, rfl⟩
     refine TL.freeze (segs) rfl (fun S6 w6 hz6 => ?_)
     replace hb := hb.frz hz6
     replace hbx := hbx.old hz6
     replace hy := hy.old hz6
     replace hz := hz.old hz6
     replace kA := kA.old hz6
     replace kB := kB.old hz6
     replace kC := kC.old hz6
     replace kD := kD.old hz6
     replace h18 := h18.old hz6
     replace h20 := h20.old hz6
     replace h22 := h22.old hz6
     replace h24 := h24.frz hz6
     rw [back_X hB hla hwa] at h24
     refine TL.move hF rfl rfl ?_
     refine TL.extract hF rfl rfl rfl ?_
     refine TL.extract hF rfl rfl rfl ?_
     refine TL.assign hF rfl rfl ?_
     refine TL.assign hF rfl rfl ?_
     refine TL.nil ?_
     refine TQ.then_n ?_
     refine T.seq ?_
     refine T.region ?_
     refine TL.move hF rfl rfl ?_
     refine TL.move hF rfl rfl ?_
     refine TL.call hF (difs_box' hB hla hwa hbx.ro kA.ro) rfl rfl ?_
     rintro _ _ ⟨a26, c26, segs, rfl, h26, rfl⟩
     refine TL.freeze (segs) rfl (fun S7 w7 hz7 => ?_)
     replace hb := hb.frz hz7
     replace hbx := hbx.old hz7
     replace hy := hy.old hz7
     replace hz := hz.old hz7
     replace kA := kA.old hz7
     replace kB := kB.old hz7
     replace kC := kC.old hz7
     replace kD := kD.old hz7
     replace h18 := h18.old hz7
     replace h20 := h20.old hz7
     replace h22 := h22.old hz7
     replace h24 := h24.old hz7
     replace h26 := h26.frz hz7
     refine TL.move hF rfl rfl ?_
     refine TL.extract hF rfl rfl rfl ?_
     refine TL.extract hF rfl rfl rfl ?_
     refine TL.assign hF rfl rfl ?_
     refine TL.assign hF rfl rfl ?_
     refine TL.nil ?_
     refine TQ.then_n ?_
     refine T.seq ?_
     refine T.region ?_
     refine TL.move hF rfl rfl ?_
     refine TL.move hF rfl rfl ?_
     refine TL.call hF (sums_box' hB (by rw [difX_len, hla]) (difX_wd _ _) hbx.ro h26.ro) rfl rfl ?_
     rintro _ _ ⟨a28, c28, segs, rfl, h28, rfl⟩
     refine TL.freeze (segs) rfl (fun S8 w8 hz8 => ?_)
     replace hb := hb.frz hz8
     replace hbx := hbx.old hz8
     replace hy := hy.old hz8
     replace hz := hz.old hz8
     replace kA := kA.old hz8
     replace kB := kB.old hz8
     replace kC := kC.old hz8
     replace kD := kD.old hz8
     replace h18 := h18.old hz8
     replace h20 := h20.old hz8
     replace h22 := h22.old hz8
     replace h24 := h24.old hz8
     replace h26 := h26.old hz8
     replace h28 := h28.frz hz8
     rw [again_X hB hla hwa] at h28
     refine TL.move hF rfl rfl ?_
     refine TL.extract hF rfl rfl rfl ?_
     refine TL.extract hF rfl rfl rfl ?_
     refine TL.assign hF rfl rfl ?_
     refine TL.assign hF rfl rfl ?_
     refine TL.nil ?_
     refine TQ.then_n ?_
     refine T.seq ?_
     refine T.region ?_
     refine TL.move hF rfl rfl ?_
     refine TL.move hF rfl rfl ?_
     refine TL.call hF (sums_box' hB (oneX_len _ _) (oneX_wd _ _) hbx.ro kD.ro) rfl rfl ?_
     rintro _ _ ⟨a30, c30, segs, rfl, h30, rfl⟩
     refine TL.freeze (segs) rfl (fun S9 w9 hz9 => ?_)
     replace hb := hb.frz hz9
     replace hbx := hbx.old hz9
     replace hy := hy.old hz9
     replace hz := hz.old hz9
     replace kA := kA.old hz9
     replace kB := kB.old hz9
     replace kC := kC.old hz9
     replace kD := kD.old hz9
     replace h18 := h18.old hz9
     replace h20 := h20.old hz9
     replace h22 := h22.old hz9
     replace h24 := h24.old hz9
     replace h26 := h26.old hz9
     replace h28 := h28.old hz9
     replace h30 := h30.frz hz9
     refine TL.move hF rfl rfl ?_
     refine TL.extract hF rfl rfl rfl ?_
     refine TL.extract hF rfl rfl rfl ?_
     refine TL.assign hF rfl rfl ?_
     refine TL.assign hF rfl rfl ?_
     refine TL.nil ?_
     refine TQ.then_n ?_
     refine T.seq ?_
     refine T.seq ?_
     refine T.region ?_
     refine TL.move hF rfl rfl ?_
     refine TL.bin hF rfl rfl rfl rfl ?_
     refine TL.move hF rfl rfl ?_
     refine TL.on rfl rfl rfl (by simp) ?_
     refine TL.move hF rfl rfl ?_
     refine TL.on rfl rfl rfl (by simp) ?_
     refine TL.bin hF rfl rfl rfl rfl ?_
     refine TL.pickF hF rfl (by simp) rfl rfl ?_
     refine TL.move hF rfl rfl ?_
     refine TL.on rfl rfl rfl (by simp) ?_
     refine TL.move hF rfl rfl ?_
     refine TL.on rfl rfl rfl (by simp) ?_
     refine TL.bin hF rfl rfl rfl rfl ?_
     refine TL.pickF hF rfl (by simp) rfl rfl ?_
     refine TL.move hF rfl rfl ?_
     refine TL.on rfl rfl rfl (by simp) ?_
     refine TL.move hF rfl rfl ?_
     refine TL.on rfl rfl rfl (by simp) ?_
     refine TL.bin hF rfl rfl rfl rfl ?_
     refine TL.pickF hF rfl (by simp) rfl rfl ?_
     refine TL.move hF rfl rfl ?_
     refine TL.on rfl rfl rfl (by simp) ?_
     refine TL.move hF rfl rfl ?_
     refine TL.on rfl rfl rfl (by simp) ?_
     refine TL.bin hF rfl rfl rfl rfl ?_
     refine TL.pickF hF rfl (by simp) rfl rfl ?_
     refine TL.move hF rfl rfl ?_
     refine TL.on rfl rfl rfl (by simp) ?_
     refine TL.move hF rfl rfl ?_
     refine TL.on rfl rfl rfl (by simp) ?_
     refine TL.bin hF rfl rfl rfl rfl ?_
     refine TL.pickF hF rfl (by simp) rfl rfl ?_
     refine TL.move hF rfl rfl ?_
     refine TL.on rfl rfl rfl (by simp) ?_
     refine TL.move hF rfl rfl ?_
     refine TL.on rfl rfl rfl (by simp) ?_
     refine TL.bin hF rfl rfl rfl rfl ?_
     refine TL.pickF hF rfl (by simp) rfl rfl ?_
     refine TL.move hF rfl rfl ?_
     refine TL.on rfl rfl rfl (by simp) ?_
     refine TL.move hF rfl rfl ?_
     refine TL.on rfl rfl rfl (by simp) ?_
     refine TL.move hF rfl rfl ?_
     refine TL.on rfl rfl rfl (by simp) ?_
     refine TL.callV hF (EqN h24.ro kA.ro hla hla hn60 rfl) rfl rfl ?_
     refine TL.on rfl rfl rfl (by simp) ?_
     refine TL.not hF rfl rfl ?_
     refine TL.pickF hF rfl (by simp) rfl rfl ?_
     refine TL.move hF rfl rfl ?_
     refine TL.on rfl rfl rfl (by simp) ?_
     refine TL.move hF rfl rfl ?_
     refine TL.on rfl rfl rfl (by simp) ?_
     refine TL.move hF rfl rfl ?_
     refine TL.on rfl rfl rfl (by simp) ?_
     refine TL.callV hF (EqN h28.ro kA.ro hla hla hn60 rfl) rfl rfl ?_
     refine TL.on rfl rfl rfl (by simp) ?_
     refine TL.not hF rfl rfl ?_
     refine TL.pickF hF rfl (by simp) rfl rfl ?_
     refine TL.move hF rfl rfl ?_
     refine TL.on rfl rfl rfl (by simp) ?_
     refine TL.move hF rfl rfl ?_
     refine TL.on rfl rfl rfl (by simp) ?_
     refine TL.len hF rfl rfl ?_
     refine TL.on rfl rfl rfl (by simp) ?_
     refine TL.move hF rfl rfl ?_
     refine TL.on rfl rfl rfl (by simp) ?_
     refine TL.bin hF rfl rfl rfl rfl ?_
     refine TL.pickF hF rfl (by simp) rfl rfl ?_
     refine TL.move hF rfl rfl ?_
     refine TL.on rfl rfl rfl (by simp) ?_
     refine TL.move hF rfl rfl ?_
     refine TL.on rfl rfl rfl (by simp) ?_
     refine TL.len hF rfl rfl ?_
     refine TL.on rfl rfl rfl (by simp) ?_
     refine TL.move hF rfl rfl ?_
     refine TL.on rfl rfl rfl (by simp) ?_
     refine TL.bin hF rfl rfl rfl rfl ?_
     refine TL.pickF hF rfl (by simp) rfl rfl ?_
     refine TL.move hF rfl rfl ?_
     refine TL.on rfl rfl rfl (by simp) ?_
     refine TL.move hF rfl rfl ?_
     refine TL.on rfl rfl rfl (by simp) ?_
     refine TL.len hF rfl rfl ?_
     refine TL.on rfl rfl rfl (by simp) ?_
     refine TL.move hF rfl rfl ?_
     refine TL.on rfl rfl rfl (by simp) ?_
     refine TL.bin hF rfl rfl rfl rfl ?_
     refine TL.pickF hF rfl (by simp) rfl rfl ?_
     refine TL.move hF rfl rfl ?_
     refine TL.on rfl rfl rfl (by simp) ?_
     refine TL.move hF rfl rfl ?_
     refine TL.on rfl rfl rfl (by simp) ?_
     refine TL.len hF rfl rfl ?_
     refine TL.on rfl rfl rfl (by simp) ?_
     refine TL.move hF rfl rfl ?_
     refine TL.on rfl rfl rfl (by simp) ?_
     refine TL.bin hF rfl rfl rfl rfl ?_
     refine TL.pickF hF rfl (by simp) rfl rfl ?_
     refine TL.nil ?_
     refine TQ.then_n ?_
     refine T.cond_f rfl (by simp) ?_
     refine T.skip ?_
     refine TQ.then_n ?_
     refine T.seq ?_
     refine T.seq ?_
     refine T.region ?_
     refine TL.assign hF rfl rfl ?_
     refine TL.nil ?_
     refine TQ.then_n ?_
     refine T.block ?_
     refine T.loop (ι := Nat) (fun i => i ≤ z.k) (fun i => [(3, .int .i64 cell), (8, .bool false), (9, .slice oa bx.length oc), (10, .int .i64 (z.k : Int)), (18, .slice a18 z.k c18), (20, .slice a20 z.k c20), (22, .slice a22 z.k c22), (30, .slice a30 z.k c30), (32, .int .i64 (i : Int))]) (fun _ => []) (fun i => z.k - i) 0 (Nat.zero_le _) ⟨rfl, rfl, rfl, rfl, rfl, rfl, rfl, rfl, rfl, trivial⟩ rfl ?_
     intro j hj
     refine T.seq ?_
     refine T.seq ?_
     refine T.region ?_
     refine TL.move hF rfl rfl ?_
     refine TL.move hF rfl rfl ?_
     refine TL.bin hF rfl rfl rfl rfl ?_
     refine TL.nil ?_
     refine TQ.then_n ?_
     first | refine T.cond_d rfl (fun ht212 => ?_) (fun ht212 => ?_) | refine T.cond _ rfl (fun ht212 => ?_) (fun ht212 => ?_)
     ·refine T.skip ?_
      refine TQ.then_n ?_
      refine T.seq ?_
      refine T.block ?_
      refine T.seq ?_
      refine T.region ?_
      refine TL.assign hF rfl rfl ?_
      refine TL.nil ?_
      refine TQ.then_n ?_
      refine T.seq ?_
      refine T.seq ?_
      refine T.region ?_
      refine TL.move hF rfl rfl ?_
      refine TL.move hF rfl rfl ?_
      refine TL.move hF rfl rfl ?_
      refine TL.callV hF (Turn_nat hn60 hp) rfl rfl ?_
      refine TL.call hF (lawcells_row hB hbx.ro hpN) rfl rfl ?_
      rintro _ _ ⟨g1, rfl, rfl⟩
      refine TL.move hF rfl rfl ?_
      refine TL.move hF rfl rfl ?_
      have hjk : j < z.k := by have h : (j : Int) < (z.k : Int) := ht212; omega
      refine TL.call hF (lawcells_row hB hbx.ro hjk) rfl rfl ?_
      rintro _ _ ⟨g2, rfl, rfl⟩
      refine TL.freeze [[(g2, Obj.cells (ints (tmZ bx j)).toArray 3 (0, 0))], [(g1, Obj.cells (ints (tmZ bx p)).toArray 3 (0, 0))]] rfl (fun S9 w9 hz9 => ?_)
      have k1 := (row_own (η := [[(g2, Obj.cells (ints (tmZ bx j)).toArray 3 (0, 0))], [(g1, Obj.cells (ints (tmZ bx p)).toArray 3 (0, 0))]]) (b := g1) (cs := ints (tmZ bx p)) (e := 3) (by simp)).frz hz9
      have k2 := (row_own (η := [[(g2, Obj.cells (ints (tmZ bx j)).toArray 3 (0, 0))], [(g1, Obj.cells (ints (tmZ bx p)).toArray 3 (0, 0))]]) (b := g2) (cs := ints (tmZ bx j)) (e := 3) (by simp)).frz hz9
      have k18 := h18.old hz9
      have k20 := h20.old hz9
      have k22 := h22.old hz9
      have k30 := h30.old hz9
      refine TL.call hF (less_tw k1 k2 (tw_tmZ hB) (tw_tmZ hB)) rfl rfl ?_
      rintro _ _ ⟨rfl, segs, rfl⟩
      refine TL.hsub [] (List.nil_sublist _) ?_
      refine TL.nil ?_
      refine TQ.then_n ?_
      refine T.cond _ rfl (fun ht223 => ?_) (fun ht223 => ?_)
      ·refine T.region ?_
       refine TL.assign hF rfl rfl ?_
       refine TL.nil ?_
       refine TQ.then_n ?_
       refine T.seq ?_
       have hsum := sum_add hB hla hlb (i := j) (by have h : (j : Int) < (z.k : Int) := ht212; omega)
       have hone := sum_one hB hpN (i := j) (by have h : (j : Int) < (z.k : Int) := ht212; omega)
       refine T.draw ?_
       refine DR.stepV [_] rfl [(22, _, none)] rfl rfl ⟨⟨rfl, by kernel_rfl⟩, trivial⟩ (fun ext => TL.move hF rfl rfl TL.fin) ?_
       refine DR.stepV [_, _] rfl [(32, _, none)] rfl rfl ⟨⟨rfl, by kernel_rfl⟩, trivial⟩ (fun ext => TL.move hF rfl rfl TL.fin) ?_
       refine DR.stepV [_, _, _] rfl [(224, _, some 0), (225, _, some 1)] rfl rfl ⟨⟨rfl, rfl, rfl⟩, ⟨rfl, rfl, rfl⟩, trivial⟩ (fun ext => TL.indexAddr hF rfl rfl (k22.adi (i := j) (by simp [ints, sumX_len, hlc]; omega)) (by omega) (by omega) rfl TL.fin) ?_
       refine DR.stepV [_, _, _, _] rfl [(226, _, some 2)] rfl rfl ⟨⟨rfl, rfl, rfl⟩, trivial⟩ (fun ext => TL.load hF rfl ((Row.getI_at k22 (k := j) (by simp only [sumX_len]; omega)).up (by simp)) rfl TL.fin) ?_
       refine DR.stepV [_, _, _, _, _] rfl [(18, _, none)] rfl rfl ⟨⟨rfl, by kernel_rfl⟩, trivial⟩ (fun ext => TL.move hF rfl rfl TL.fin) ?_
       refine DR.stepV [_, _, _, _, _, _] rfl [(32, _, none)] rfl rfl ⟨⟨rfl, by kernel_rfl⟩, trivial⟩ (fun ext => TL.move hF rfl rfl TL.fin) ?_
       refine DR.stepV [_, _, _, _, _, _, _] rfl [(228, _, some 4), (229, _, some 5)] rfl rfl ⟨⟨rfl, rfl, rfl⟩, ⟨rfl, rfl, rfl⟩, trivial⟩ (fun ext => TL.indexAddr hF rfl rfl (k18.adi (i := j) (by simp [ints, sumX_len]; omega)) (by omega) (by omega) rfl TL.fin) ?_
       refine DR.stepV [_, _, _, _, _, _, _, _] rfl [(230, _, some 6)] rfl rfl ⟨⟨rfl, rfl, rfl⟩, trivial⟩ (fun ext => TL.load hF rfl ((Row.getI_at k18 (k := j) (by simp only [sumX_len]; omega)).up (by simp)) rfl TL.fin) ?_
       refine DR.stepV [_, _, _, _, _, _, _, _, _] rfl [(20, _, none)] rfl rfl ⟨⟨rfl, by kernel_rfl⟩, trivial⟩ (fun ext => TL.move hF rfl rfl TL.fin) ?_
       refine DR.stepV [_, _, _, _, _, _, _, _, _, _] rfl [(32, _, none)] rfl rfl ⟨⟨rfl, by kernel_rfl⟩, trivial⟩ (fun ext => TL.move hF rfl rfl TL.fin) ?_
       refine DR.stepV [_, _, _, _, _, _, _, _, _, _, _] rfl [(232, _, some 8), (233, _, some 9)] rfl rfl ⟨⟨rfl, rfl, rfl⟩, ⟨rfl, rfl, rfl⟩, trivial⟩ (fun ext => TL.indexAddr hF rfl rfl (k20.adi (i := j) (by simp [ints, sumX_len]; omega)) (by omega) (by omega) rfl TL.fin) ?_
       refine DR.stepV [_, _, _, _, _, _, _, _, _, _, _, _] rfl [(234, _, some 10)] rfl rfl ⟨⟨rfl, rfl, rfl⟩, trivial⟩ (fun ext => TL.load hF rfl ((Row.getI_at k20 (k := j) (by simp only [sumX_len]; omega)).up (by simp)) rfl TL.fin) ?_
       refine DR.stepV [_, _, _, _, _, _, _, _, _, _, _, _, _] rfl [(231, _, some 7), (235, _, some 11)] rfl rfl ⟨⟨rfl, rfl, rfl⟩, ⟨rfl, rfl, rfl⟩, trivial⟩ (fun ext => TL.addK hF rfl rfl (r := wr (getI (sumX bx z.xs) j + getI (sumX bx z.bs) j)) (wrap_wr _) rfl TL.fin) ?_
       refine DR.stepV [_, _, _, _, _, _, _, _, _, _, _, _, _, _] rfl [(227, _, some 3), (236, _, some 12)] rfl rfl ⟨⟨rfl, rfl, rfl⟩, ⟨rfl, rfl, rfl⟩, trivial⟩ (fun ext => TL.bin hF rfl rfl rfl rfl TL.fin) ?_
       refine DR.stepV [_, _, _, _, _, _, _, _, _, _, _, _, _, _, _] rfl [(237, _, some 13)] rfl rfl ⟨⟨rfl, rfl, rfl⟩, trivial⟩ (fun ext => TL.move hF rfl rfl TL.fin) ?_
       refine DR.stepV [_, _, _, _, _, _, _, _, _, _, _, _, _, _, _, _] rfl [(30, _, none), (238, _, some 14)] rfl rfl ⟨⟨rfl, by kernel_rfl⟩, ⟨rfl, rfl, rfl⟩, trivial⟩ (fun ext => TL.on rfl rfl rfl (by rw [hsum]; simp) <| TL.move hF rfl rfl TL.fin) ?_
       refine DR.stepV [_, _, _, _, _, _, _, _, _, _, _, _, _, _, _, _, _] rfl [(32, _, none), (238, _, some 14)] rfl rfl ⟨⟨rfl, by kernel_rfl⟩, ⟨rfl, rfl, rfl⟩, trivial⟩ (fun ext => TL.on rfl rfl rfl (by rw [hsum]; simp) <| TL.move hF rfl rfl TL.fin) ?_
       refine DR.stepV [_, _, _, _, _, _, _, _, _, _, _, _, _, _, _, _, _, _] rfl [(239, _, some 15), (240, _, some 16), (238, _, some 14)] rfl rfl ⟨⟨rfl, rfl, rfl⟩, ⟨rfl, rfl, rfl⟩, ⟨rfl, rfl, rfl⟩, trivial⟩ (fun ext => TL.on rfl rfl rfl (by rw [hsum]; simp) <| TL.indexAddr hF rfl rfl (k30.adi (i := j) (by simp [ints, sumX_len, oneX_len]; omega)) (by omega) (by omega) rfl TL.fin) ?_
       refine DR.stepV [_, _, _, _, _, _, _, _, _, _, _, _, _, _, _, _, _, _, _] rfl [(241, _, some 17), (238, _, some 14)] rfl rfl ⟨⟨rfl, rfl, rfl⟩, ⟨rfl, rfl, rfl⟩, trivial⟩ (fun ext => TL.on rfl rfl rfl (by rw [hsum]; simp) <| TL.load hF rfl ((Row.getI_at k30 (k := j) (by simp only [sumX_len, oneX_len]; omega)).up (by simp)) rfl TL.fin) ?_
       refine DR.stepV [_, _, _, _, _, _, _, _, _, _, _, _, _, _, _, _, _, _, _, _] rfl [(33, _, none), (238, _, some 14)] rfl rfl ⟨⟨rfl, by kernel_rfl⟩, ⟨rfl, rfl, rfl⟩, trivial⟩ (fun ext => TL.on rfl rfl rfl (by rw [hsum]; simp) <| TL.move hF rfl rfl TL.fin) ?_
       refine DR.done [(243, _), (242, _), (241, _), (240, _), (239, _), (238, _), (237, _), (236, _), (235, _), (234, _), (233, _), (232, _), (231, _), (230, _), (229, _), (228, _), (227, _), (226, _), (225, _), (224, _)] [_, _] mixed (by kernel_rfl) (by kernel_rfl) (by kernel_rfl) rfl rfl ?_
       refine TL.on rfl rfl rfl (by rw [hsum]; simp) ?_
       refine TL.bin hF rfl rfl rfl rfl ?_
       refine TL.pickF hF rfl (by rw [hsum]; simp) rfl rfl ?_
       refine TL.nil ?_
       refine TQ.then_n ?_
       refine T.cond_f rfl (by rw [hone, if_pos ht223]; simp) ?_
       refine T.skip ?_
       refine TQ.block_n ?_
       refine TQ.then_n ?_
       refine T.region ?_
       refine TL.move hF rfl rfl ?_
       refine TL.add hF rfl rfl (by omega) (by omega) rfl ?_
       refine TL.assign hF rfl rfl ?_
       refine TL.nil ?_
       refine TQ.thaw hz9 ?_
       refine TQ.hsub [] (List.nil_sublist _) ?_
       exact TQ.round (j + 1) (by omega) (by omega) ⟨rfl, rfl, rfl, rfl, rfl, rfl, rfl, rfl, rfl, trivial⟩ rfl
      ·refine T.skip ?_
       refine TQ.then_n ?_
       refine T.seq ?_
       have hsum := sum_add hB hla hlb (i := j) (by have h : (j : Int) < (z.k : Int) := ht212; omega)
       have hone := sum_one hB hpN (i := j) (by have h : (j : Int) < (z.k : Int) := ht212; omega)
       refine T.draw ?_
       refine DR.stepV [_] rfl [(22, _, none)] rfl rfl ⟨⟨rfl, by kernel_rfl⟩, trivial⟩ (fun ext => TL.move hF rfl rfl TL.fin) ?_
       refine DR.stepV [_, _] rfl [(32, _, none)] rfl rfl ⟨⟨rfl, by kernel_rfl⟩, trivial⟩ (fun ext => TL.move hF rfl rfl TL.fin) ?_
       refine DR.stepV [_, _, _] rfl [(224, _, some 0), (225, _, some 1)] rfl rfl ⟨⟨rfl, rfl, rfl⟩, ⟨rfl, rfl, rfl⟩, trivial⟩ (fun ext => TL.indexAddr hF rfl rfl (k22.adi (i := j) (by simp [ints, sumX_len, hlc]; omega)) (by omega) (by omega) rfl TL.fin) ?_
       refine DR.stepV [_, _, _, _] rfl [(226, _, some 2)] rfl rfl ⟨⟨rfl, rfl, rfl⟩, trivial⟩ (fun ext => TL.load hF rfl ((Row.getI_at k22 (k := j) (by simp only [sumX_len]; omega)).up (by simp)) rfl TL.fin) ?_
       refine DR.stepV [_, _, _, _, _] rfl [(18, _, none)] rfl rfl ⟨⟨rfl, by kernel_rfl⟩, trivial⟩ (fun ext => TL.move hF rfl rfl TL.fin) ?_
       refine DR.stepV [_, _, _, _, _, _] rfl [(32, _, none)] rfl rfl ⟨⟨rfl, by kernel_rfl⟩, trivial⟩ (fun ext => TL.move hF rfl rfl TL.fin) ?_
       refine DR.stepV [_, _, _, _, _, _, _] rfl [(228, _, some 4), (229, _, some 5)] rfl rfl ⟨⟨rfl, rfl, rfl⟩, ⟨rfl, rfl, rfl⟩, trivial⟩ (fun ext => TL.indexAddr hF rfl rfl (k18.adi (i := j) (by simp [ints, sumX_len]; omega)) (by omega) (by omega) rfl TL.fin) ?_
       refine DR.stepV [_, _, _, _, _, _, _, _] rfl [(230, _, some 6)] rfl rfl ⟨⟨rfl, rfl, rfl⟩, trivial⟩ (fun ext => TL.load hF rfl ((Row.getI_at k18 (k := j) (by simp only [sumX_len]; omega)).up (by simp)) rfl TL.fin) ?_
       refine DR.stepV [_, _, _, _, _, _, _, _, _] rfl [(20, _, none)] rfl rfl ⟨⟨rfl, by kernel_rfl⟩, trivial⟩ (fun ext => TL.move hF rfl rfl TL.fin) ?_
       refine DR.stepV [_, _, _, _, _, _, _, _, _, _] rfl [(32, _, none)] rfl rfl ⟨⟨rfl, by kernel_rfl⟩, trivial⟩ (fun ext => TL.move hF rfl rfl TL.fin) ?_
       refine DR.stepV [_, _, _, _, _, _, _, _, _, _, _] rfl [(232, _, some 8), (233, _, some 9)] rfl rfl ⟨⟨rfl, rfl, rfl⟩, ⟨rfl, rfl, rfl⟩, trivial⟩ (fun ext => TL.indexAddr hF rfl rfl (k20.adi (i := j) (by simp [ints, sumX_len]; omega)) (by omega) (by omega) rfl TL.fin) ?_
       refine DR.stepV [_, _, _, _, _, _, _, _, _, _, _, _] rfl [(234, _, some 10)] rfl rfl ⟨⟨rfl, rfl, rfl⟩, trivial⟩ (fun ext => TL.load hF rfl ((Row.getI_at k20 (k := j) (by simp only [sumX_len]; omega)).up (by simp)) rfl TL.fin) ?_
       refine DR.stepV [_, _, _, _, _, _, _, _, _, _, _, _, _] rfl [(231, _, some 7), (235, _, some 11)] rfl rfl ⟨⟨rfl, rfl, rfl⟩, ⟨rfl, rfl, rfl⟩, trivial⟩ (fun ext => TL.addK hF rfl rfl (r := wr (getI (sumX bx z.xs) j + getI (sumX bx z.bs) j)) (wrap_wr _) rfl TL.fin) ?_
       refine DR.stepV [_, _, _, _, _, _, _, _, _, _, _, _, _, _] rfl [(227, _, some 3), (236, _, some 12)] rfl rfl ⟨⟨rfl, rfl, rfl⟩, ⟨rfl, rfl, rfl⟩, trivial⟩ (fun ext => TL.bin hF rfl rfl rfl rfl TL.fin) ?_
       refine DR.stepV [_, _, _, _, _, _, _, _, _, _, _, _, _, _, _] rfl [(237, _, some 13)] rfl rfl ⟨⟨rfl, rfl, rfl⟩, trivial⟩ (fun ext => TL.move hF rfl rfl TL.fin) ?_
       refine DR.stepV [_, _, _, _, _, _, _, _, _, _, _, _, _, _, _, _] rfl [(30, _, none), (238, _, some 14)] rfl rfl ⟨⟨rfl, by kernel_rfl⟩, ⟨rfl, rfl, rfl⟩, trivial⟩ (fun ext => TL.on rfl rfl rfl (by rw [hsum]; simp) <| TL.move hF rfl rfl TL.fin) ?_
       refine DR.stepV [_, _, _, _, _, _, _, _, _, _, _, _, _, _, _, _, _] rfl [(32, _, none), (238, _, some 14)] rfl rfl ⟨⟨rfl, by kernel_rfl⟩, ⟨rfl, rfl, rfl⟩, trivial⟩ (fun ext => TL.on rfl rfl rfl (by rw [hsum]; simp) <| TL.move hF rfl rfl TL.fin) ?_
       refine DR.stepV [_, _, _, _, _, _, _, _, _, _, _, _, _, _, _, _, _, _] rfl [(239, _, some 15), (240, _, some 16), (238, _, some 14)] rfl rfl ⟨⟨rfl, rfl, rfl⟩, ⟨rfl, rfl, rfl⟩, ⟨rfl, rfl, rfl⟩, trivial⟩ (fun ext => TL.on rfl rfl rfl (by rw [hsum]; simp) <| TL.indexAddr hF rfl rfl (k30.adi (i := j) (by simp [ints, sumX_len, oneX_len]; omega)) (by omega) (by omega) rfl TL.fin) ?_
       refine DR.stepV [_, _, _, _, _, _, _, _, _, _, _, _, _, _, _, _, _, _, _] rfl [(241, _, some 17), (238, _, some 14)] rfl rfl ⟨⟨rfl, rfl, rfl⟩, ⟨rfl, rfl, rfl⟩, trivial⟩ (fun ext => TL.on rfl rfl rfl (by rw [hsum]; simp) <| TL.load hF rfl ((Row.getI_at k30 (k := j) (by simp only [sumX_len, oneX_len]; omega)).up (by simp)) rfl TL.fin) ?_
       refine DR.stepV [_, _, _, _, _, _, _, _, _, _, _, _, _, _, _, _, _, _, _, _] rfl [(33, _, none), (238, _, some 14)] rfl rfl ⟨⟨rfl, by kernel_rfl⟩, ⟨rfl, rfl, rfl⟩, trivial⟩ (fun ext => TL.on rfl rfl rfl (by rw [hsum]; simp) <| TL.move hF rfl rfl TL.fin) ?_
       refine DR.done [(243, _), (242, _), (241, _), (240, _), (239, _), (238, _), (237, _), (236, _), (235, _), (234, _), (233, _), (232, _), (231, _), (230, _), (229, _), (228, _), (227, _), (226, _), (225, _), (224, _)] [_, _] mixed (by kernel_rfl) (by kernel_rfl) (by kernel_rfl) rfl rfl ?_
       refine TL.on rfl rfl rfl (by rw [hsum]; simp) ?_
       refine TL.bin hF rfl rfl rfl rfl ?_
       refine TL.pickF hF rfl (by rw [hsum]; simp) rfl rfl ?_
       refine TL.nil ?_
       refine TQ.then_n ?_
       refine T.cond_f rfl (by rw [hone, if_neg (by rw [ht223]; decide)]; simp) ?_
       refine T.skip ?_
       refine TQ.block_n ?_
       refine TQ.then_n ?_
       refine T.region ?_
       refine TL.move hF rfl rfl ?_
       refine TL.add hF rfl rfl (by omega) (by omega) rfl ?_
       refine TL.assign hF rfl rfl ?_
       refine TL.nil ?_
       refine TQ.thaw hz9 ?_
       refine TQ.hsub [] (List.nil_sublist _) ?_
       exact TQ.round (j + 1) (by omega) (by omega) ⟨rfl, rfl, rfl, rfl, rfl, rfl, rfl, rfl, rfl, trivial⟩ rfl
     ·refine T.exit ?_
      refine TQ.then_x ?_
      refine TQ.then_x ?_
      refine TQ.block_x ?_
      refine TQ.then_n ?_
      refine T.seq ?_
      refine T.region ?_
      refine TL.call hF ordered_fn rfl rfl ?_
      rintro _ _ rfl
      refine TL.assign hF rfl rfl ?_
      refine TL.nil ?_
      refine TQ.then_n ?_
      refine T.ret ?_
      exact TQ.retsF [8] _ hb rfl rfl rfl (fun _ => rfl)
end Go.Proofs.YteimjjpigohnhaaGreat
namespace Go.Proofs.YteimjjpigohnhaaGreat
open Go.Sl Go.ChangeShapes Go.WideShapes Go.ChangeAt Go.RowKit 
set_option maxRecDepth 100000 in
theorem orderSums_lifted (os : Os) (started : os.Started) (H : Type) (enc : TypeId × Value → H) :
    ReturnsInHanded {} Tryz.checked os 3 .any (Rows.orderSumsSpec.pre6 enc Tryz.prog Tryz.f3 Rows.orderSumsRow.domain false) (Rows.orderSumsSpec.post enc Tryz.prog Tryz.f3 false true false false) := by
  refine returnsInHanded_of_change (C := Tryz.checked) Tryz.own started (by kernel_rfl) Tryz.func3
    (ChangeSpec.witness6 (enc := enc) (C := Tryz.checked) false ⟨#[], #[.slice none 0 0, .slice none 0 0, .slice none 0 0, .int .i64 0], []⟩ 8 (by kernel_rfl) (by kernel_rfl) (by kernel_rfl) (by kernel_rfl)) ?_
  intro W base args ds gs before hval hW hcnd _
  have hW' := hW
  obtain ⟨p, q, hA0, hV, rfl, hfz, hnd⟩ := hW
  have hA : DataW.TrodAll enc Tryz.prog W 0 (fun _ => true) true [22, 22, 22, 3] args.toList ds p := hA0
  have hval' : ∀ (j : Nat) t v, (#[22, 22, 22, 3] : Array TypeId)[j]? = some t → args[j]? = some v → Value.okWide Tryz.prog W .any base t v := hval
  obtain ⟨v0, v1, v2, v3, d0, d1, d2, d3, p0, p1, p2, p3, rfl, rfl, rfl, h0, h1, h2, h3⟩ := trodAll_four hA
  obtain ⟨_, _, _, rfl⟩ := okWide_slice u22 (hval' 0 22 v0 rfl rfl)
  obtain ⟨_, h0⟩ := h0
  obtain ⟨a0, xs0, c0, e0, hx0, hl0, hw0⟩ := time_read h0
  obtain ⟨_, _, _, rfl⟩ := okWide_slice u22 (hval' 1 22 v1 rfl rfl)
  obtain ⟨_, h1⟩ := h1
  obtain ⟨a1, xs1, c1, e1, hx1, hl1, hw1⟩ := time_read h1
  obtain ⟨_, _, _, rfl⟩ := okWide_slice u22 (hval' 2 22 v2 rfl rfl)
  obtain ⟨_, h2⟩ := h2
  obtain ⟨a2, xs2, c2, e2, hx2, hl2, hw2⟩ := time_read h2
  obtain ⟨z3, rfl, _, _, wz3⟩ := open_int u3 (hval' 3 3 v3 rfl rfl) h3
  have wz3 := wf_i64 wz3
  rw [e0, e1, e2] at hW' ⊢
  refine (calls_true (OrderSums_fn hx0 hx1 hx2 hl0 hl1 hl2 hw0 hw1 hw2)).mono fun e W' ⟨he, hw⟩ => ⟨_, he, ?_⟩
  exact law_post (f := Tryz.f3) Tryz.laidOut rfl 4 rfl u4 hW' rfl (by decide +kernel) hw
theorem orderSums_holds : Rows.OrderSumsSaid :=
  OpenClaim.holds_of_wide 3 Tryz.f3 rfl rfl rfl rfl rfl rfl rfl ⟨rfl, rfl, rfl, rfl, rfl⟩ rfl rfl rfl rfl rfl (by kernel_rfl) Tryz.func3 (by kernel_rfl)
    (of_decide_eq_true (by kernel_rfl)) (by unfold Func.isWrapper; first | (rw [if_pos (by decide +kernel)]; kernel_rfl) | (rw [if_neg (by decide +kernel)]; exact ⟨rfl, rfl⟩))
    (fun os started H enc _ => orderSums_lifted os started H enc)
#print axioms orderSums_holds
end Go.Proofs.YteimjjpigohnhaaGreat
