/- The document's examples. -/
import Derived.Test.YtdehpaikapbckaaW25
namespace Go.Proofs.Ytdehpaikapbckaa
open Go.Sl
variable {S : Nat → Prop} {w0 : World} {η : Heap}
theorem Rules.frz {S' : Nat → Prop} {w1 : World} {ηr : Heap} {a : Option Addr} {rs : List RuleD} (h : Rules S w0 ηr a rs) (hz : Frz S S' w0 w1 ηr) : Rules S' w1 [] a rs := ⟨h.row.frz hz, fun r hr => (h.body r hr).frz hz⟩
theorem Rules.old {S' : Nat → Prop} {w1 : World} {ηr : Heap} {a : Option Addr} {rs : List RuleD} (h : Rules S w0 [] a rs) (hz : Frz S S' w0 w1 ηr) : Rules S' w1 [] a rs := ⟨h.row.old hz, fun r hr => (h.body r hr).old hz⟩
theorem OutL.frz {S' : Nat → Prop} {w1 : World} {ηr : Heap} {a : Option Addr} {ls : List (List Nat)} (h : OutL S w0 ηr a ls) (hz : Frz S S' w0 w1 ηr) : OutL S' w1 [] a ls := by
  obtain ⟨ps, h1, h2, h3⟩ := h
  exact ⟨ps, h1, h2.frz hz, fun i a b => (h3 i a b).frz hz⟩
theorem OutL.old {S' : Nat → Prop} {w1 : World} {ηr : Heap} {a : Option Addr} {ls : List (List Nat)} (h : OutL S w0 [] a ls) (hz : Frz S S' w0 w1 ηr) : OutL S' w1 [] a ls := by
  obtain ⟨ps, h1, h2, h3⟩ := h
  exact ⟨ps, h1, h2.old hz, fun i a b => (h3 i a b).old hz⟩
theorem sample_body (P : Nat → Option Addr × Nat) (more : Bool) : ∀ r ∈ sampleR P more, r.body.length < 2 ^ 63 := by
  cases more <;> intro r hr <;> simp only [sampleR, cond_true, cond_false, List.append_nil, List.cons_append, List.nil_append, List.mem_cons, List.not_mem_nil, or_false] at hr
  · rcases hr with rfl | rfl | rfl | rfl <;> (show (usesB _ _).length < 2 ^ 63; decide)
  · rcases hr with rfl | rfl | rfl | rfl | rfl <;> (show (usesB _ _).length < 2 ^ 63; decide)
theorem aw1 (P : Nat → Option Addr × Nat) : blocksS 5 (sampleR P false) = ([[0], [1, 2], [3], [4]], 0) := by kernel_rfl
theorem aw2 (P : Nat → Option Addr × Nat) : levelsS 5 (sampleR P false) = ([0, 0, 0, 1, 1], 0) := by kernel_rfl
theorem aw3 (P : Nat → Option Addr × Nat) : reasonS 5 (sampleR P false) = ([], 4) := by kernel_rfl
theorem aw4 (P : Nat → Option Addr × Nat) : reasonS 5 (sampleR P true) = ([2, 3], 0) := by kernel_rfl
theorem aw5 (P : Nat → Option Addr × Nat) : blocksS 5 (sampleR P true) = ([], 10) := by kernel_rfl
theorem aw6 (P : Nat → Option Addr × Nat) : reachS 5 (sampleR P false) [2] = ([1, 2, 3, 4], 0) := by kernel_rfl

theorem awB {p : Option Addr} {c : Nat} {P : Nat → Option Addr × Nat} (hr : Rules S w0 [] p (sampleR P false)) : Rt Try.prog 10 [.int .i64 5, .slice p 4 c].toArray S w0 η (fun v η' => ∃ a cap segs, v = .tuple #[.slice a 4 cap, .int .i64 0] ∧ η' = segs ++ η ∧ OutL S w0 segs a [[0], [1, 2], [3], [4]]) := by
  have h := Blocks_prog (η := η) (c := c) 5 hr (show (4 : Nat) < 2 ^ 63 by decide) (sample_body P false)
  rw [aw1] at h; exact h
theorem awL {p : Option Addr} {c : Nat} {P : Nat → Option Addr × Nat} (hr : Rules S w0 [] p (sampleR P false)) : Rt Try.prog 14 [.int .i64 5, .slice p 4 c].toArray S w0 η (fun v η' => ∃ a cap segs, v = .tuple #[.slice a 5 cap, .int .i64 0] ∧ η' = segs ++ η ∧ Row S w0 segs a (ints [0, 0, 0, 1, 1])) := by
  have h := Levels_prog (η := η) (c := c) 5 hr (show (4 : Nat) < 2 ^ 63 by decide) (sample_body P false)
  rw [aw2] at h; exact h
theorem awN {p : Option Addr} {c : Nat} {P : Nat → Option Addr × Nat} (hr : Rules S w0 [] p (sampleR P false)) : Rt Try.prog 12 [.int .i64 5, .slice p 4 c].toArray S w0 η (fun v η' => ∃ a cap segs, v = .tuple #[.slice a 0 cap, .int .i64 4] ∧ η' = segs ++ η) := by
  have h := Reason_prog (η := η) (c := c) 5 hr (show (4 : Nat) < 2 ^ 63 by decide) (sample_body P false)
  rw [aw3] at h; exact h.mono fun v η' ⟨a, cap, segs, h1, h2, _⟩ => ⟨a, cap, segs, h1, h2⟩
theorem awR {p : Option Addr} {c : Nat} {P : Nat → Option Addr × Nat} (hr : Rules S w0 [] p (sampleR P true)) : Rt Try.prog 12 [.int .i64 5, .slice p 5 c].toArray S w0 η (fun v η' => ∃ a cap segs, v = .tuple #[.slice a 2 cap, .int .i64 0] ∧ η' = segs ++ η ∧ Row S w0 segs a (ints [2, 3])) := by
  have h := Reason_prog (η := η) (c := c) 5 hr (show (5 : Nat) < 2 ^ 63 by decide) (sample_body P true)
  rw [aw4] at h; exact h
theorem awC {p : Option Addr} {c : Nat} {P : Nat → Option Addr × Nat} (hr : Rules S w0 [] p (sampleR P true)) : Rt Try.prog 10 [.int .i64 5, .slice p 5 c].toArray S w0 η (fun v η' => ∃ a cap segs, v = .tuple #[.slice a 0 cap, .int .i64 10] ∧ η' = segs ++ η) := by
  have h := Blocks_prog (η := η) (c := c) 5 hr (show (5 : Nat) < 2 ^ 63 by decide) (sample_body P true)
  rw [aw5] at h; exact h.mono fun v η' ⟨a, cap, segs, h1, h2, _⟩ => ⟨a, cap, segs, h1, h2⟩
theorem awM {p : Option Addr} {c fc : Nat} {fa : Option Addr} {P : Nat → Option Addr × Nat} (hr : Rules S w0 [] p (sampleR P false)) (hf : Row S w0 [] fa (ints [2])) : Rt Try.prog 16 [.int .i64 5, .slice p 4 c, .slice fa 1 fc].toArray S w0 η (fun v η' => ∃ a cap segs, v = .tuple #[.slice a 4 cap, .int .i64 0] ∧ η' = segs ++ η ∧ Row S w0 segs a (ints [1, 2, 3, 4])) := by
  have h := Reach_prog (η := η) (c := c) (fc := fc) 5 hr (show (4 : Nat) < 2 ^ 63 by decide) (sample_body P false) hf (by decide)
  rw [aw6] at h; exact h

set_option maxHeartbeats 2000000 in
theorem awake_fn  :
    Rt Try.prog 9 ([] : List Value).toArray S w0 η (fun v _ => v = .bool true) := by
  have hF := open_wide
  refine Rt.of (fn := Try.f9) Try.func9 rfl rfl ?_
  refine T.seq ?_
  refine T.region ?_
  refine TL.assign hF rfl rfl ?_
  refine TL.nil ?_
  refine TQ.then_n ?_
  refine T.seq ?_
  refine T.region ?_
  have hb := Back.refl S w0
  refine TL.freeze η (η2 := []) (by simp) (fun S9 w9 hz9 => ?_)
  have hb := hb.frz hz9
  refine TL.call hF (sample_fn false) rfl rfl ?_
  rintro _ _ ⟨p1, c1, s1, P1, rfl, rfl, r1⟩
  refine TL.freeze s1 rfl (fun S1 w1 hz1 => ?_)
  have hb := hb.frz hz1
  have r1 := r1.frz hz1
  refine TL.call hF (awB r1) rfl rfl ?_
  rintro _ _ ⟨a1, d1, q1, rfl, rfl, hA⟩
  refine TL.freeze q1 rfl (fun S11 w11 hz11 => ?_)
  have hb := hb.frz hz11
  have hA := hA.frz hz11
  refine TL.move hF rfl rfl ?_
  refine TL.extract hF rfl rfl rfl ?_
  refine TL.extract hF rfl rfl rfl ?_
  refine TL.assign hF rfl rfl ?_
  refine TL.assign hF rfl rfl ?_
  refine TL.nil ?_
  refine TQ.then_n ?_
  refine T.seq ?_
  refine T.region ?_
  refine TL.call hF (sample_fn false) rfl rfl ?_
  rintro _ _ ⟨p2, c2, s2, P2, rfl, rfl, r2⟩
  refine TL.freeze s2 rfl (fun S2 w2 hz2 => ?_)
  have hb := hb.frz hz2
  have r2 := r2.frz hz2
  have hA := hA.old hz2
  refine TL.call hF (awL r2) rfl rfl ?_
  rintro _ _ ⟨a2, d2, q2, rfl, rfl, hB⟩
  refine TL.freeze q2 rfl (fun S12 w12 hz12 => ?_)
  have hb := hb.frz hz12
  have hB := hB.frz hz12
  have hA := hA.old hz12
  refine TL.move hF rfl rfl ?_
  refine TL.extract hF rfl rfl rfl ?_
  refine TL.extract hF rfl rfl rfl ?_
  refine TL.assign hF rfl rfl ?_
  refine TL.assign hF rfl rfl ?_
  refine TL.nil ?_
  refine TQ.then_n ?_
  refine T.seq ?_
  refine T.region ?_
  refine TL.call hF (sample_fn false) rfl rfl ?_
  rintro _ _ ⟨p3, c3, s3, P3, rfl, rfl, r3⟩
  refine TL.freeze s3 rfl (fun S3 w3 hz3 => ?_)
  have hb := hb.frz hz3
  have r3 := r3.frz hz3
  have hA := hA.old hz3
  have hB := hB.old hz3
  refine TL.call hF (awN r3) rfl rfl ?_
  rintro _ _ ⟨a3, d3, q3, rfl, rfl⟩
  refine TL.freeze q3 rfl (fun S13 w13 hz13 => ?_)
  have hb := hb.frz hz13
  have hA := hA.old hz13
  have hB := hB.old hz13
  refine TL.move hF rfl rfl ?_
  refine TL.extract hF rfl rfl rfl ?_
  refine TL.extract hF rfl rfl rfl ?_
  refine TL.assign hF rfl rfl ?_
  refine TL.assign hF rfl rfl ?_
  refine TL.nil ?_
  refine TQ.then_n ?_
  refine T.seq ?_
  refine T.region ?_
  refine TL.call hF (sample_fn true) rfl rfl ?_
  rintro _ _ ⟨p4, c4, s4, P4, rfl, rfl, r4⟩
  refine TL.freeze s4 rfl (fun S4 w4 hz4 => ?_)
  have hb := hb.frz hz4
  have r4 := r4.frz hz4
  have hA := hA.old hz4
  have hB := hB.old hz4
  refine TL.call hF (awR r4) rfl rfl ?_
  rintro _ _ ⟨a4, d4, q4, rfl, rfl, hC⟩
  refine TL.freeze q4 rfl (fun S14 w14 hz14 => ?_)
  have hb := hb.frz hz14
  have hC := hC.frz hz14
  have hA := hA.old hz14
  have hB := hB.old hz14
  refine TL.move hF rfl rfl ?_
  refine TL.extract hF rfl rfl rfl ?_
  refine TL.extract hF rfl rfl rfl ?_
  refine TL.assign hF rfl rfl ?_
  refine TL.assign hF rfl rfl ?_
  refine TL.nil ?_
  refine TQ.then_n ?_
  refine T.seq ?_
  refine T.region ?_
  refine TL.call hF (sample_fn true) rfl rfl ?_
  rintro _ _ ⟨p5, c5, s5, P5, rfl, rfl, r5⟩
  refine TL.freeze s5 rfl (fun S5 w5 hz5 => ?_)
  have hb := hb.frz hz5
  have r5 := r5.frz hz5
  have hA := hA.old hz5
  have hB := hB.old hz5
  have hC := hC.old hz5
  refine TL.call hF (awC r5) rfl rfl ?_
  rintro _ _ ⟨a5, d5, q5, rfl, rfl⟩
  refine TL.freeze q5 rfl (fun S15 w15 hz15 => ?_)
  have hb := hb.frz hz15
  have hA := hA.old hz15
  have hB := hB.old hz15
  have hC := hC.old hz15
  refine TL.move hF rfl rfl ?_
  refine TL.extract hF rfl rfl rfl ?_
  refine TL.extract hF rfl rfl rfl ?_
  refine TL.assign hF rfl rfl ?_
  refine TL.assign hF rfl rfl ?_
  refine TL.nil ?_
  refine TQ.then_n ?_
  refine T.seq ?_
  refine T.region ?_
  refine TL.call hF (sample_fn false) rfl rfl ?_
  rintro _ _ ⟨p6, c6, s6, P6, rfl, rfl, r6⟩
  refine TL.freeze s6 rfl (fun S6 w6 hz6 => ?_)
  have hb := hb.frz hz6
  have r6 := r6.frz hz6
  have hA := hA.old hz6
  have hB := hB.old hz6
  have hC := hC.old hz6
  refine TL.buildSlice hF rfl (cs := #[.int .i64 2]) (e := 3) (fun w => by kernel_rfl) rfl (fun b40 => ?_)
  have hf : Row S6 w6 [[(b40, .cells #[.int .i64 2] 3 (0, 0))]] (some ⟨b40, 0, none⟩) (ints [2]) := row_own (cs := ints [2]) (e := 3) List.mem_cons_self
  refine TL.freeze [[(b40, .cells #[.int .i64 2] 3 (0, 0))]] rfl (fun S7 w7 hz7 => ?_)
  have hb := hb.frz hz7
  have hf := hf.frz hz7
  have hA := hA.old hz7
  have hB := hB.old hz7
  have hC := hC.old hz7
  have r6 := r6.old hz7
  refine TL.call hF (awM r6 hf) rfl rfl ?_
  rintro _ _ ⟨a6, d6, q6, rfl, rfl, hD⟩
  refine TL.freeze q6 rfl (fun S16 w16 hz16 => ?_)
  have hb := hb.frz hz16
  have hD := hD.frz hz16
  have hA := hA.old hz16
  have hB := hB.old hz16
  have hC := hC.old hz16
  refine TL.move hF rfl rfl ?_
  refine TL.extract hF rfl rfl rfl ?_
  refine TL.extract hF rfl rfl rfl ?_
  refine TL.assign hF rfl rfl ?_
  refine TL.assign hF rfl rfl ?_
  refine TL.nil ?_
  refine TQ.then_n ?_
  refine T.seq ?_
  refine T.region ?_
  refine TL.move hF rfl rfl ?_
  refine TL.bin hF rfl rfl rfl rfl ?_
  refine TL.move hF rfl rfl ?_
  refine TL.on rfl rfl rfl (by decide) ?_
  refine TL.move hF rfl rfl ?_
  refine TL.on rfl rfl rfl (by decide) ?_
  refine TL.move hF rfl rfl ?_
  refine TL.on rfl rfl rfl (by decide) ?_
  refine TL.bin hF rfl rfl rfl rfl ?_
  refine TL.pickT hF rfl (by decide) rfl rfl ?_
  refine TL.move hF rfl rfl ?_
  refine TL.on rfl rfl rfl (by decide) ?_
  refine TL.move hF rfl rfl ?_
  refine TL.on rfl rfl rfl (by decide) ?_
  refine TL.bin hF rfl rfl rfl rfl ?_
  refine TL.pickT hF rfl (by decide) rfl rfl ?_
  refine TL.move hF rfl rfl ?_
  refine TL.on rfl rfl rfl (by decide) ?_
  refine TL.move hF rfl rfl ?_
  refine TL.on rfl rfl rfl (by decide) ?_
  refine TL.move hF rfl rfl ?_
  refine TL.on rfl rfl rfl (by decide) ?_
  refine TL.bin hF rfl rfl rfl rfl ?_
  refine TL.pickT hF rfl (by decide) rfl rfl ?_
  refine TL.move hF rfl rfl ?_
  refine TL.on rfl rfl rfl (by decide) ?_
  refine TL.move hF rfl rfl ?_
  refine TL.on rfl rfl rfl (by decide) ?_
  refine TL.bin hF rfl rfl rfl rfl ?_
  refine TL.pickT hF rfl (by decide) rfl rfl ?_
  refine TL.move hF rfl rfl ?_
  refine TL.on rfl rfl rfl (by decide) ?_
  refine TL.move hF rfl rfl ?_
  refine TL.on rfl rfl rfl (by decide) ?_
  refine TL.move hF rfl rfl ?_
  refine TL.on rfl rfl rfl (by decide) ?_
  refine TL.bin hF rfl rfl rfl rfl ?_
  refine TL.pickT hF rfl (by decide) rfl rfl ?_
  refine TL.move hF rfl rfl ?_
  refine TL.on rfl rfl rfl (by decide) ?_
  refine TL.move hF rfl rfl ?_
  refine TL.on rfl rfl rfl (by decide) ?_
  refine TL.buildSlice hF rfl (cs := #[.int .i64 0]) (e := 3) (fun w => by kernel_rfl) rfl (fun b71 => ?_)
  refine TL.on rfl rfl rfl (by decide) ?_
  refine TL.buildSlice hF rfl (cs := #[.int .i64 1, .int .i64 2]) (e := 3) (fun w => by kernel_rfl) rfl (fun b72 => ?_)
  refine TL.on rfl rfl rfl (by decide) ?_
  refine TL.buildSlice hF rfl (cs := #[.int .i64 3]) (e := 3) (fun w => by kernel_rfl) rfl (fun b73 => ?_)
  refine TL.on rfl rfl rfl (by decide) ?_
  refine TL.buildSlice hF rfl (cs := #[.int .i64 4]) (e := 3) (fun w => by kernel_rfl) rfl (fun b74 => ?_)
  refine TL.on rfl rfl rfl (by decide) ?_
  refine TL.buildSlice hF rfl (cs := #[.slice (some ⟨b71, 0, none⟩) 1 1, .slice (some ⟨b72, 0, none⟩) 2 2, .slice (some ⟨b73, 0, none⟩) 1 1, .slice (some ⟨b74, 0, none⟩) 1 1]) (e := 23) (fun w => by kernel_rfl) rfl (fun b75 => ?_)
  refine TL.on rfl rfl rfl (by decide) ?_
  have hY : Lists S16 w16 ([(b75, .cells #[.slice (some ⟨b71, 0, none⟩) 1 1, .slice (some ⟨b72, 0, none⟩) 2 2, .slice (some ⟨b73, 0, none⟩) 1 1, .slice (some ⟨b74, 0, none⟩) 1 1] 23 (0, 0))] :: [(b74, .cells #[.int .i64 4] 3 (0, 0))] :: [(b73, .cells #[.int .i64 3] 3 (0, 0))] :: [(b72, .cells #[.int .i64 1, .int .i64 2] 3 (0, 0))] :: [(b71, .cells #[.int .i64 0] 3 (0, 0))] :: []) (some ⟨b75, 0, none⟩) [[0], [1, 2], [3], [4]] := by
    refine ⟨[(some ⟨b71, 0, none⟩, 1), (some ⟨b72, 0, none⟩, 2), (some ⟨b73, 0, none⟩, 1), (some ⟨b74, 0, none⟩, 1)], rfl, row_own (e := 23) List.mem_cons_self, fun i h1 h2 => ?_⟩
    match i, h1, h2 with
    | 0, _, _ => exact row_own (cs := ints [0]) (e := 3) (by simp [ints])
    | 1, _, _ => exact row_own (cs := ints [1, 2]) (e := 3) (by simp [ints])
    | 2, _, _ => exact row_own (cs := ints [3]) (e := 3) (by simp [ints])
    | 3, _, _ => exact row_own (cs := ints [4]) (e := 3) (by simp [ints])
  have hA2 : Lists S16 w16 ([(b75, .cells #[.slice (some ⟨b71, 0, none⟩) 1 1, .slice (some ⟨b72, 0, none⟩) 2 2, .slice (some ⟨b73, 0, none⟩) 1 1, .slice (some ⟨b74, 0, none⟩) 1 1] 23 (0, 0))] :: [(b74, .cells #[.int .i64 4] 3 (0, 0))] :: [(b73, .cells #[.int .i64 3] 3 (0, 0))] :: [(b72, .cells #[.int .i64 1, .int .i64 2] 3 (0, 0))] :: [(b71, .cells #[.int .i64 0] 3 (0, 0))] :: []) a1 [[0], [1, 2], [3], [4]] := OutL.up hA (by simp)
  refine TL.callV hF (EqualLists_fn hA2 hY (by decide) (by decide)) rfl rfl ?_
  refine TL.pickT hF rfl (by decide) rfl rfl ?_
  refine TL.move hF rfl rfl ?_
  refine TL.on rfl rfl rfl (by decide) ?_
  refine TL.move hF rfl rfl ?_
  refine TL.on rfl rfl rfl (by decide) ?_
  refine TL.buildSlice hF rfl (cs := #[.int .i64 0, .int .i64 0, .int .i64 0, .int .i64 1, .int .i64 1]) (e := 3) (fun w => by kernel_rfl) rfl (fun b80 => ?_)
  refine TL.on rfl rfl rfl (by decide) ?_
  refine TL.callV hF (Equal_fn hB.ro (row_own (cs := ints [0, 0, 0, 1, 1]) (e := 3) List.mem_cons_self) (by decide)) rfl rfl ?_
  refine TL.pickT hF rfl (by decide) rfl rfl ?_
  refine TL.move hF rfl rfl ?_
  refine TL.on rfl rfl rfl (by decide) ?_
  refine TL.move hF rfl rfl ?_
  refine TL.on rfl rfl rfl (by decide) ?_
  refine TL.buildSlice hF rfl (cs := #[.int .i64 2, .int .i64 3]) (e := 3) (fun w => by kernel_rfl) rfl (fun b85 => ?_)
  refine TL.on rfl rfl rfl (by decide) ?_
  refine TL.callV hF (Equal_fn hC.ro (row_own (cs := ints [2, 3]) (e := 3) List.mem_cons_self) (by decide)) rfl rfl ?_
  refine TL.pickT hF rfl (by decide) rfl rfl ?_
  refine TL.move hF rfl rfl ?_
  refine TL.on rfl rfl rfl (by decide) ?_
  refine TL.move hF rfl rfl ?_
  refine TL.on rfl rfl rfl (by decide) ?_
  refine TL.buildSlice hF rfl (cs := #[.int .i64 1, .int .i64 2, .int .i64 3, .int .i64 4]) (e := 3) (fun w => by kernel_rfl) rfl (fun b90 => ?_)
  refine TL.on rfl rfl rfl (by decide) ?_
  refine TL.callV hF (Equal_fn hD.ro (row_own (cs := ints [1, 2, 3, 4]) (e := 3) List.mem_cons_self) (by decide)) rfl rfl ?_
  refine TL.pickT hF rfl (by decide) rfl rfl ?_
  refine TL.assign hF rfl rfl ?_
  refine TL.nil ?_
  refine TQ.then_n ?_
  refine T.ret ?_
  exact TQ.retsF [0] _ hb rfl rfl rfl (fun _ => rfl)
end Go.Proofs.Ytdehpaikapbckaa
