/- The reference's blocks. -/
import Derived.Test.YtdehpaikapbckaaW3
import Derived.Test.YtdehpaikapbckaaOrd
namespace Go.Proofs.Ytdehpaikapbckaa
open Go.Sl
variable {S : Nat → Prop} {w0 : World} {η : Heap}
abbrev nats (l : List Nat) : List Value := l.map fun (b : Nat) => Value.int .i64 (b : Int)
theorem nats_ints (l : List Nat) : nats l = ints (l.map fun (b : Nat) => (b : Int)) := by simp [nats, ints]
theorem nats1 (l : List Nat) : ∀ u ∈ nats l, u.oneCell' = true := by intro u hu; obtain ⟨b, _, rfl⟩ := List.mem_map.1 hu; rfl
theorem _root_.Go.Sl.Row.bit {a : Option Addr} {n : Nat} {g : Nat → Bool} (h : Row S w0 η a (rowC n g)) {j : Nat} (hj : j < n) : At S w0 η (sAt a (j * 1)) (.bool (g j)) := by rw [Nat.mul_one]; exact h.cell j _ (rowC_get hj)
theorem _root_.Go.Sl.Row.bad {a : Option Addr} {n : Nat} {g : Nat → Bool} (h : Row S w0 η a (rowC n g)) {j : Nat} (hj : j < n) : ∃ ad, a = some ad ∧ ad.spot = none := h.adi (i := j) (by rw [rowC_len]; exact hj)

set_option maxHeartbeats 2000000 in
theorem ordered_fn {p m : Option Addr} {rs : List RuleD} {c n mc : Nat} {M : Nat → Nat → Bool} (hr : Rules S w0 [] p rs) (hl : rs.length < 2 ^ 63) (hb : ∀ r ∈ rs, r.body.length < 2 ^ 63) (hn : n ≤ 1000) (hm : Mat S w0 η m n M) :
    Rt Try.prog 31 [.int .i64 (n : Int), .slice p rs.length c, .slice m n mc].toArray S w0 η (fun v η' => v = .bool (ordB n (ED rs) M) ∧ η' = η) := by
  have hF := open_wide
  refine Rt.of (fn := Try.f31) Try.func31 rfl rfl ?_
  refine T.seq ?_
  refine T.region ?_
  refine TL.assign hF rfl rfl ?_
  refine TL.nil ?_
  refine TQ.then_n ?_
  refine T.seq ?_
  refine T.seq ?_
  refine T.region ?_
  refine TL.assign hF rfl rfl ?_
  refine TL.nil ?_
  refine TQ.then_n ?_
  refine T.block ?_
  obtain ⟨f, hf⟩ := hm
  refine T.loop (ι := Nat) (fun k => k ≤ n ∧ ∀ a b, a < k → b < n → ED rs a b = true → ¬ (a = b ∨ M b a = true)) (fun k => [(0, .int .i64 (n : Int)), (1, .slice p rs.length c), (2, .slice m n mc), (7, .int .i64 (k : Int))]) (fun _ => η) (fun k => n - k) 0 ⟨Nat.zero_le _, by omega⟩ ⟨rfl, rfl, rfl, rfl, trivial⟩ rfl ?_
  rintro k ⟨hk, hs⟩
  refine T.seq ?_
  refine T.seq ?_
  refine T.region ?_
  refine TL.move hF rfl rfl ?_
  refine TL.move hF rfl rfl ?_
  refine TL.bin hF rfl rfl rfl rfl ?_
  refine TL.nil ?_
  refine TQ.then_n ?_
  first | refine T.cond_d rfl (fun ht11 => ?_) (fun ht11 => ?_) | refine T.cond _ rfl (fun ht11 => ?_) (fun ht11 => ?_)
  · refine T.skip ?_
    refine TQ.then_n ?_
    refine T.seq ?_
    refine T.block ?_
    refine T.seq ?_
    refine T.region ?_
    refine TL.assign hF rfl rfl ?_
    refine TL.nil ?_
    refine TQ.then_n ?_
    refine T.block ?_
    refine T.loop (ι := Nat) (fun j => j ≤ n ∧ ∀ b, b < j → ED rs k b = true → ¬ (k = b ∨ M b k = true)) (fun j => [(0, .int .i64 (n : Int)), (1, .slice p rs.length c), (2, .slice m n mc), (7, .int .i64 (k : Int)), (8, .int .i64 (j : Int))]) (fun _ => η) (fun j => n - j) 0 ⟨Nat.zero_le _, by omega⟩ ⟨rfl, rfl, rfl, rfl, rfl, trivial⟩ rfl ?_
    rintro j ⟨hj, hjs⟩
    refine T.seq ?_
    refine T.seq ?_
    refine T.region ?_
    refine TL.move hF rfl rfl ?_
    refine TL.move hF rfl rfl ?_
    refine TL.bin hF rfl rfl rfl rfl ?_
    refine TL.nil ?_
    refine TQ.then_n ?_
    first | refine T.cond_d rfl (fun ht16 => ?_) (fun ht16 => ?_) | refine T.cond _ rfl (fun ht16 => ?_) (fun ht16 => ?_)
    · refine T.skip ?_
      refine TQ.then_n ?_
      refine T.seq ?_
      refine T.block ?_
      refine T.seq ?_
      refine T.region ?_
      refine TL.move hF rfl rfl ?_
      refine TL.move hF rfl rfl ?_
      refine TL.move hF rfl rfl ?_
      refine TL.callV hF (Uses_fn k j true hr hl hb) rfl rfl ?_
      refine TL.move hF rfl rfl ?_
      refine TL.gb (t := 23) rfl (fun g7_23 => ?_) (fun g7_23 => ?_)
      · refine TL.on rfl rfl rfl g7_23 ?_
        refine TL.move hF rfl rfl ?_
        refine TL.on rfl rfl rfl g7_23 ?_
        refine TL.move hF rfl rfl ?_
        refine TL.on rfl rfl rfl g7_23 ?_
        refine TL.bin hF rfl rfl rfl rfl ?_
        refine TL.on rfl rfl rfl g7_23 ?_
        refine TL.move hF rfl rfl ?_
        refine TL.gd (t := 27) rfl (fun g7_27 => ?_) (fun g7_27 => ?_)
        · refine TL.off hF rfl rfl rfl (decide_eq_true g7_27) rfl ?_
          refine TL.off hF rfl rfl rfl (decide_eq_true g7_27) rfl ?_
          refine TL.off hF rfl rfl rfl (decide_eq_true g7_27) rfl ?_
          refine TL.off hF rfl rfl rfl (decide_eq_true g7_27) rfl ?_
          refine TL.off hF rfl rfl rfl (decide_eq_true g7_27) rfl ?_
          refine TL.off hF rfl rfl rfl (decide_eq_true g7_27) rfl ?_
          refine TL.off hF rfl rfl rfl (decide_eq_true g7_27) rfl ?_
          refine TL.on rfl rfl rfl g7_23 ?_
          refine TL.pickT hF rfl (decide_eq_true g7_27) rfl rfl ?_
          refine TL.pickT hF rfl g7_23 rfl rfl ?_
          refine TL.nil ?_
          refine TQ.then_n ?_
          refine T.cond_t rfl rfl ?_
          refine T.seq ?_
          refine T.region ?_
          refine TL.assign hF rfl rfl ?_
          refine TL.nil ?_
          refine TQ.then_n ?_
          refine T.ret ?_
          refine TQ.block_r ?_
          refine TQ.then_r ?_
          refine TQ.then_r ?_
          refine TQ.block_r ?_
          refine TQ.block_r ?_
          refine TQ.then_r ?_
          refine TQ.then_r ?_
          refine TQ.block_r ?_
          refine TQ.then_r ?_
          refine TQ.rets [6] _ rfl rfl rfl ?_
          have h1 : ordB n (ED rs) M = false := by
            rw [Bool.eq_false_iff]; intro h
            exact ordB_iff.1 h k j (by omega) (by omega) g7_23 (by first | exact .inl (by omega) | (right; simp_all))
          exact ⟨by simp [retVal, h1], rfl⟩
        · refine TL.on rfl rfl rfl (decide_eq_false g7_27) ?_
          refine TL.move hF rfl rfl ?_
          refine TL.on rfl rfl rfl (decide_eq_false g7_27) ?_
          refine TL.move hF rfl rfl ?_
          refine TL.on rfl rfl rfl (decide_eq_false g7_27) ?_
          refine TL.indexAddr hF rfl rfl (hf j (by omega)).1 (by omega) (by omega) rfl ?_
          refine TL.on rfl rfl rfl (decide_eq_false g7_27) ?_
          refine TL.load hF rfl (hf j (by omega)).2.1 rfl ?_
          refine TL.on rfl rfl rfl (decide_eq_false g7_27) ?_
          refine TL.move hF rfl rfl ?_
          refine TL.on rfl rfl rfl (decide_eq_false g7_27) ?_
          refine TL.indexAddr hF rfl rfl ((hf j (by omega)).2.2.bad (j := k) (by omega)) (by omega) (by omega) rfl ?_
          refine TL.on rfl rfl rfl (decide_eq_false g7_27) ?_
          refine TL.load hF rfl ((hf j (by omega)).2.2.bit (j := k) (by omega)) rfl ?_
          refine TL.on rfl rfl rfl g7_23 ?_
          refine TL.pickF hF rfl (decide_eq_false g7_27) rfl rfl ?_
          refine TL.pickT hF rfl g7_23 rfl rfl ?_
          refine TL.nil ?_
          refine TQ.then_n ?_
          first | refine T.cond_d rfl (fun ht36 => ?_) (fun ht36 => ?_) | refine T.cond _ rfl (fun ht36 => ?_) (fun ht36 => ?_)
          · refine T.seq ?_
            refine T.region ?_
            refine TL.assign hF rfl rfl ?_
            refine TL.nil ?_
            refine TQ.then_n ?_
            refine T.ret ?_
            refine TQ.block_r ?_
            refine TQ.then_r ?_
            refine TQ.then_r ?_
            refine TQ.block_r ?_
            refine TQ.block_r ?_
            refine TQ.then_r ?_
            refine TQ.then_r ?_
            refine TQ.block_r ?_
            refine TQ.then_r ?_
            refine TQ.rets [6] _ rfl rfl rfl ?_
            have h1 : ordB n (ED rs) M = false := by
              rw [Bool.eq_false_iff]; intro h
              exact ordB_iff.1 h k j (by omega) (by omega) g7_23 (by first | exact .inl (by omega) | (right; simp_all))
            exact ⟨by simp [retVal, h1], rfl⟩
          · refine T.skip ?_
            refine TQ.block_n ?_
            refine TQ.then_n ?_
            refine T.region ?_
            refine TL.move hF rfl rfl ?_
            refine TL.add hF rfl rfl (by omega) (by omega) rfl ?_
            refine TL.assign hF rfl rfl ?_
            refine TL.nil ?_
            refine TQ.round (j + 1) ⟨by omega, fun b hb2 hd hx => ?_⟩ (by omega) ⟨rfl, rfl, rfl, rfl, rfl, trivial⟩ rfl
            by_cases hbj : b = j
            · subst hbj; first | (rw [hd] at g7_23; cases g7_23) | (rcases hx with hx | hx <;> first | omega | simp_all)
            · exact hjs b (by omega) hd hx
      · refine TL.off hF rfl rfl rfl g7_23 rfl ?_
        refine TL.off hF rfl rfl rfl g7_23 rfl ?_
        refine TL.off hF rfl rfl rfl g7_23 rfl ?_
        refine TL.off hF rfl rfl rfl g7_23 rfl ?_
        refine TL.offU hF rfl rfl rfl rfl ?_
        refine TL.offU hF rfl rfl rfl rfl ?_
        refine TL.offU hF rfl rfl rfl rfl ?_
        refine TL.offU hF rfl rfl rfl rfl ?_
        refine TL.offU hF rfl rfl rfl rfl ?_
        refine TL.offU hF rfl rfl rfl rfl ?_
        refine TL.offU hF rfl rfl rfl rfl ?_
        refine TL.off hF rfl rfl rfl g7_23 rfl ?_
        refine TL.pickF hF rfl g7_23 rfl rfl ?_
        refine TL.nil ?_
        refine TQ.then_n ?_
        refine T.cond_f rfl rfl ?_
        refine T.skip ?_
        refine TQ.block_n ?_
        refine TQ.then_n ?_
        refine T.region ?_
        refine TL.move hF rfl rfl ?_
        refine TL.add hF rfl rfl (by omega) (by omega) rfl ?_
        refine TL.assign hF rfl rfl ?_
        refine TL.nil ?_
        refine TQ.round (j + 1) ⟨by omega, fun b hb2 hd hx => ?_⟩ (by omega) ⟨rfl, rfl, rfl, rfl, rfl, trivial⟩ rfl
        by_cases hbj : b = j
        · subst hbj; first | (rw [hd] at g7_23; cases g7_23) | (rcases hx with hx | hx <;> first | omega | simp_all)
        · exact hjs b (by omega) hd hx
    · refine T.exit ?_
      refine TQ.then_x ?_
      refine TQ.then_x ?_
      refine TQ.block_x ?_
      refine TQ.block_n ?_
      refine TQ.then_n ?_
      refine T.region ?_
      refine TL.move hF rfl rfl ?_
      refine TL.add hF rfl rfl (by omega) (by omega) rfl ?_
      refine TL.assign hF rfl rfl ?_
      refine TL.nil ?_
      refine TQ.round (k + 1) ⟨by omega, fun a b ha hb2 => ?_⟩ (by omega) ⟨rfl, rfl, rfl, rfl, trivial⟩ rfl
      by_cases hak : a = k
      · subst hak; exact hjs b (by omega)
      · exact hs a b (by omega) hb2
  · refine T.exit ?_
    refine TQ.then_x ?_
    refine TQ.then_x ?_
    refine TQ.block_x ?_
    refine TQ.then_n ?_
    refine T.seq ?_
    refine T.region ?_
    refine TL.assign hF rfl rfl ?_
    refine TL.nil ?_
    refine TQ.then_n ?_
    refine T.ret ?_
    refine TQ.rets [6] _ rfl rfl rfl ?_
    exact ⟨by rw [ordB_iff.2 (fun a b ha hb2 => hs a b (by omega) hb2)]; rfl, rfl⟩
set_option maxHeartbeats 2000000 in
theorem block_fn {m : Option Addr} {n mc q : Nat} {M : Nat → Nat → Bool} (hn : n ≤ 1000) (hm : Mat S w0 η m n M) (hq : q < n) :
    Rt Try.prog 57 [.int .i64 (n : Int), .slice m n mc, .int .i64 (q : Int)].toArray S w0 η (fun v η' => ∃ a cap seg, v = .slice a (blockS n M q).length cap ∧ η' = seg :: η ∧ OSl 3 1 (.slice a (blockS n M q).length cap) (blockS n M q).length (nats (blockS n M q)) seg) := by
  have hF := open_wide
  refine Rt.of (fn := Try.f57) Try.func57 rfl rfl ?_
  refine T.seq ?_
  refine T.region ?_
  refine TL.assign hF rfl rfl ?_
  refine TL.nil ?_
  refine TQ.then_n ?_
  refine T.seq ?_
  refine T.region ?_
  refine TL.assign hF rfl rfl ?_
  refine TL.nil ?_
  refine TQ.then_n ?_
  refine T.seq ?_
  refine T.seq ?_
  refine T.region ?_
  refine TL.assign hF rfl rfl ?_
  refine TL.nil ?_
  refine TQ.then_n ?_
  refine T.block ?_
  refine T.hnil ?_
  obtain ⟨f, hf⟩ := hm
  refine T.loop (ι := Nat × List Nat × Option Addr × Nat × Seg) (fun i => i.1 ≤ n ∧ i.2.1 = (List.range i.1).filter (fun b => q == b || (M q b && M b q)) ∧ OSl 3 1 (.slice i.2.2.1 i.2.1.length i.2.2.2.1) i.2.1.length (nats i.2.1) i.2.2.2.2) (fun i => [(0, .int .i64 (n : Int)), (1, .slice m n mc), (2, .int .i64 (q : Int)), (7, .slice i.2.2.1 i.2.1.length i.2.2.2.1), (8, .int .i64 (i.1 : Int))]) (fun i => i.2.2.2.2 :: η) (fun i => n - i.1) (0, [], none, 0, []) ⟨Nat.zero_le _, rfl, OSl.nil 3 1⟩ ⟨rfl, rfl, rfl, rfl, rfl, trivial⟩ rfl ?_
  rintro ⟨k, l, a, cap, seg⟩ ⟨hk, hl, ho⟩
  simp only at hk hl ho
  have hlen : l.length ≤ k := by rw [hl]; simpa using List.length_filter_le (p := fun b => q == b || (M q b && M b q)) (l := List.range k)
  refine T.seq ?_
  refine T.seq ?_
  refine T.region ?_
  refine TL.move hF rfl rfl ?_
  refine TL.move hF rfl rfl ?_
  refine TL.bin hF rfl rfl rfl rfl ?_
  refine TL.nil ?_
  refine TQ.then_n ?_
  first | refine T.cond_d rfl (fun ht11 => ?_) (fun ht11 => ?_) | refine T.cond _ rfl (fun ht11 => ?_) (fun ht11 => ?_)
  · refine T.skip ?_
    refine TQ.then_n ?_
    refine T.seq ?_
    refine T.block ?_
    refine T.seq ?_
    refine T.region ?_
    refine TL.move hF rfl rfl ?_
    refine TL.move hF rfl rfl ?_
    refine TL.bin hF rfl rfl rfl rfl ?_
    refine TL.move hF rfl rfl ?_
    refine TL.gd (t := 17) rfl (fun g5_17 => ?_) (fun g5_17 => ?_)
    · refine TL.off hF rfl rfl rfl (decide_eq_true g5_17) rfl ?_
      refine TL.off hF rfl rfl rfl (decide_eq_true g5_17) rfl ?_
      refine TL.off hF rfl rfl rfl (decide_eq_true g5_17) rfl ?_
      refine TL.off hF rfl rfl rfl (decide_eq_true g5_17) rfl ?_
      refine TL.off hF rfl rfl rfl (decide_eq_true g5_17) rfl ?_
      refine TL.off hF rfl rfl rfl (decide_eq_true g5_17) rfl ?_
      refine TL.off hF rfl rfl rfl (decide_eq_true g5_17) rfl ?_
      refine TL.off hF rfl rfl rfl (decide_eq_true g5_17) rfl ?_
      refine TL.offU hF rfl rfl rfl rfl ?_
      refine TL.offU hF rfl rfl rfl rfl ?_
      refine TL.offU hF rfl rfl rfl rfl ?_
      refine TL.offU hF rfl rfl rfl rfl ?_
      refine TL.offU hF rfl rfl rfl rfl ?_
      refine TL.offU hF rfl rfl rfl rfl ?_
      refine TL.offU hF rfl rfl rfl rfl ?_
      refine TL.off hF rfl rfl rfl (decide_eq_true g5_17) rfl ?_
      refine TL.pickT hF rfl (decide_eq_true g5_17) rfl rfl ?_
      refine TL.nil ?_
      refine TQ.then_n ?_
      refine T.cond_t rfl rfl ?_
      refine T.region ?_
      refine TL.move hF rfl rfl ?_
      refine TL.move hF rfl rfl ?_
      refine TL.buildSlice hF rfl (cs := #[.int .i64 (k : Int)]) (e := 3) (fun w => by kernel_rfl) rfl (fun b37 => ?_)
      refine TL.append hF 1 rfl rfl rfl ho (row_own (cs := [.int .i64 (k : Int)]) (e := 3) (by simp)).src rfl rfl (by simp [Value.oneCell']) (by omega) (by omega) rfl (fun a' cap' seg' ho' => ?_)
      refine TL.assign hF rfl rfl ?_
      refine TL.nil ?_
      refine TQ.block_n ?_
      refine TQ.then_n ?_
      refine T.region ?_
      refine TL.move hF rfl rfl ?_
      refine TL.add hF rfl rfl (by omega) (by omega) rfl ?_
      refine TL.assign hF rfl rfl ?_
      refine TL.nil ?_
      have e1 : (l ++ [k]).length = l.length + 1 := by simp
      refine TQ.pop ?_
      refine TQ.round (k + 1, l ++ [k], a', cap', seg') ⟨by simp only; omega, ?_, by simpa using ho'⟩ (by simp only; omega) ⟨rfl, rfl, rfl, congrArg (fun z => some (Value.slice a' z cap')) e1.symm, rfl, trivial⟩ rfl
      have hqk : q = k := by omega
      rw [List.range_succ, List.filter_append, ← hl]; simp [hqk]
    · refine TL.on rfl rfl rfl (decide_eq_false g5_17) ?_
      refine TL.move hF rfl rfl ?_
      refine TL.on rfl rfl rfl (decide_eq_false g5_17) ?_
      refine TL.move hF rfl rfl ?_
      refine TL.on rfl rfl rfl (decide_eq_false g5_17) ?_
      refine TL.indexAddr hF rfl rfl (hf q (by omega)).1 (by omega) (by omega) rfl ?_
      refine TL.on rfl rfl rfl (decide_eq_false g5_17) ?_
      refine TL.load hF rfl ((hf q (by omega)).2.1.up upc) rfl ?_
      refine TL.on rfl rfl rfl (decide_eq_false g5_17) ?_
      refine TL.move hF rfl rfl ?_
      refine TL.on rfl rfl rfl (decide_eq_false g5_17) ?_
      refine TL.indexAddr hF rfl rfl ((hf q (by omega)).2.2.bad (j := k) (by omega)) (by omega) (by omega) rfl ?_
      refine TL.on rfl rfl rfl (decide_eq_false g5_17) ?_
      refine TL.load hF rfl (((hf q (by omega)).2.2.bit (j := k) (by omega)).up upc) rfl ?_
      refine TL.on rfl rfl rfl (decide_eq_false g5_17) ?_
      refine TL.move hF rfl rfl ?_
      refine TL.gb (t := 25) rfl (fun g5_25 => ?_) (fun g5_25 => ?_)
      · refine TL.on rfl rfl rfl g5_25 ?_
        refine TL.move hF rfl rfl ?_
        refine TL.on rfl rfl rfl g5_25 ?_
        refine TL.move hF rfl rfl ?_
        refine TL.on rfl rfl rfl g5_25 ?_
        refine TL.indexAddr hF rfl rfl (hf k (by omega)).1 (by omega) (by omega) rfl ?_
        refine TL.on rfl rfl rfl g5_25 ?_
        refine TL.load hF rfl ((hf k (by omega)).2.1.up upc) rfl ?_
        refine TL.on rfl rfl rfl g5_25 ?_
        refine TL.move hF rfl rfl ?_
        refine TL.on rfl rfl rfl g5_25 ?_
        refine TL.indexAddr hF rfl rfl ((hf k (by omega)).2.2.bad (j := q) (by omega)) (by omega) (by omega) rfl ?_
        refine TL.on rfl rfl rfl g5_25 ?_
        refine TL.load hF rfl (((hf k (by omega)).2.2.bit (j := q) (by omega)).up upc) rfl ?_
        refine TL.on rfl rfl rfl (decide_eq_false g5_17) ?_
        refine TL.pickT hF rfl g5_25 rfl rfl ?_
        refine TL.pickF hF rfl (decide_eq_false g5_17) rfl rfl ?_
        refine TL.nil ?_
        refine TQ.then_n ?_
        first | refine T.cond_d rfl (fun ht34 => ?_) (fun ht34 => ?_) | refine T.cond _ rfl (fun ht34 => ?_) (fun ht34 => ?_)
        · refine T.region ?_
          refine TL.move hF rfl rfl ?_
          refine TL.move hF rfl rfl ?_
          refine TL.buildSlice hF rfl (cs := #[.int .i64 (k : Int)]) (e := 3) (fun w => by kernel_rfl) rfl (fun b37 => ?_)
          refine TL.append hF 1 rfl rfl rfl ho (row_own (cs := [.int .i64 (k : Int)]) (e := 3) (by simp)).src rfl rfl (by simp [Value.oneCell']) (by omega) (by omega) rfl (fun a' cap' seg' ho' => ?_)
          refine TL.assign hF rfl rfl ?_
          refine TL.nil ?_
          refine TQ.block_n ?_
          refine TQ.then_n ?_
          refine T.region ?_
          refine TL.move hF rfl rfl ?_
          refine TL.add hF rfl rfl (by omega) (by omega) rfl ?_
          refine TL.assign hF rfl rfl ?_
          refine TL.nil ?_
          have e1 : (l ++ [k]).length = l.length + 1 := by simp
          refine TQ.pop ?_
          refine TQ.round (k + 1, l ++ [k], a', cap', seg') ⟨by simp only; omega, ?_, by simpa using ho'⟩ (by simp only; omega) ⟨rfl, rfl, rfl, congrArg (fun z => some (Value.slice a' z cap')) e1.symm, rfl, trivial⟩ rfl
          rw [List.range_succ, List.filter_append, ← hl]; simp_all
        · refine T.skip ?_
          refine TQ.block_n ?_
          refine TQ.then_n ?_
          refine T.region ?_
          refine TL.move hF rfl rfl ?_
          refine TL.add hF rfl rfl (by omega) (by omega) rfl ?_
          refine TL.assign hF rfl rfl ?_
          refine TL.nil ?_
          refine TQ.round (k + 1, l, a, cap, seg) ⟨by simp only; omega, ?_, ho⟩ (by simp only; omega) ⟨rfl, rfl, rfl, rfl, rfl, trivial⟩ rfl
          rw [List.range_succ, List.filter_append, ← hl]; simp_all; try omega
      · refine TL.off hF rfl rfl rfl g5_25 rfl ?_
        refine TL.off hF rfl rfl rfl g5_25 rfl ?_
        refine TL.off hF rfl rfl rfl g5_25 rfl ?_
        refine TL.off hF rfl rfl rfl g5_25 rfl ?_
        refine TL.off hF rfl rfl rfl g5_25 rfl ?_
        refine TL.off hF rfl rfl rfl g5_25 rfl ?_
        refine TL.off hF rfl rfl rfl g5_25 rfl ?_
        refine TL.on rfl rfl rfl (decide_eq_false g5_17) ?_
        refine TL.pickF hF rfl g5_25 rfl rfl ?_
        refine TL.pickF hF rfl (decide_eq_false g5_17) rfl rfl ?_
        refine TL.nil ?_
        refine TQ.then_n ?_
        refine T.cond_f rfl rfl ?_
        refine T.skip ?_
        refine TQ.block_n ?_
        refine TQ.then_n ?_
        refine T.region ?_
        refine TL.move hF rfl rfl ?_
        refine TL.add hF rfl rfl (by omega) (by omega) rfl ?_
        refine TL.assign hF rfl rfl ?_
        refine TL.nil ?_
        refine TQ.round (k + 1, l, a, cap, seg) ⟨by simp only; omega, ?_, ho⟩ (by simp only; omega) ⟨rfl, rfl, rfl, rfl, rfl, trivial⟩ rfl
        rw [List.range_succ, List.filter_append, ← hl]; simp_all; try omega
  · refine T.exit ?_
    refine TQ.then_x ?_
    refine TQ.then_x ?_
    refine TQ.block_x ?_
    refine TQ.then_n ?_
    refine T.seq ?_
    refine T.region ?_
    refine TL.move hF rfl rfl ?_
    refine TL.assign hF rfl rfl ?_
    refine TL.nil ?_
    refine TQ.then_n ?_
    refine T.ret ?_
    refine TQ.rets [6] _ rfl rfl rfl ?_
    have hkn : k = n := by omega
    subst hkn
    have e : l = blockS k M q := hl
    rw [← e]
    exact ⟨a, cap, seg, rfl, rfl, ho⟩
end Go.Proofs.Ytdehpaikapbckaa
