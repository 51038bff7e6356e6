/- The reference's cycle of denial. -/
import Derived.Test.YtdehpaikapbckaaW6
namespace Go.Proofs.Ytdehpaikapbckaa
open Go.Sl
variable {S : Nat → Prop} {w0 : World} {η : Heap}
set_option maxHeartbeats 2000000 in
theorem way_fn {p : Option Addr} {rs : List RuleD} {c n t r0 : Nat} (hr : Rules S w0 [] p rs) (hl : rs.length < 2 ^ 63) (hb : ∀ r ∈ rs, r.body.length < 2 ^ 63) (hn : n ≤ 1000) (htn : t < n) (hrn : r0 < n) (hd : 0 ≤ distS (EU rs) n t r0) :
    Rt Try.prog 41 [.int .i64 (n : Int), .slice p rs.length c, .int .i64 (r0 : Int), .int .i64 (t : Int)].toArray S w0 η (fun v η' => ∃ a cap seg, v = .slice a (distS (EU rs) n t r0).toNat cap ∧ η' = seg :: η ∧ OSl 3 1 (.slice a (distS (EU rs) n t r0).toNat cap) (distS (EU rs) n t r0).toNat (nats (wayS (EU rs) n (distS (EU rs) n t) (distS (EU rs) n t r0).toNat r0)) seg) := by
  have hF := open_wide
  refine Rt.of (fn := Try.f41) Try.func41 rfl rfl ?_
  refine T.seq ?_
  refine T.region ?_
  refine TL.assign hF rfl rfl ?_
  refine TL.nil ?_
  refine TQ.then_n ?_
  refine T.seq ?_
  refine T.region ?_
  refine TL.move hF rfl rfl ?_
  refine TL.move hF rfl rfl ?_
  refine TL.move hF rfl rfl ?_
  refine TL.call hF (far_fn hr hl hb hn htn) rfl rfl ?_
  rintro _ _ ⟨lb, rfl, rfl⟩
  refine TL.assign hF rfl rfl ?_
  refine TL.nil ?_
  refine TQ.then_n ?_
  refine T.seq ?_
  refine T.region ?_
  refine TL.assign hF rfl rfl ?_
  refine TL.nil ?_
  refine TQ.then_n ?_
  refine T.seq ?_
  refine T.block ?_
  refine T.hnil ?_
  have hD := distS_is (E := EU rs) htn
  have hlt0 : distS (EU rs) n t r0 < n := levS_lt hrn
  refine T.loop (ι := Nat × Nat × List Nat × Option Addr × Nat × Seg) (fun i => i.2.1 < n ∧ distS (EU rs) n t i.2.1 = i.1 ∧ i.2.2.1.length + i.1 = (distS (EU rs) n t r0).toNat ∧ wayS (EU rs) n (distS (EU rs) n t) (distS (EU rs) n t r0).toNat r0 = i.2.2.1 ++ wayS (EU rs) n (distS (EU rs) n t) i.1 i.2.1 ∧ OSl 3 1 (.slice i.2.2.2.1 i.2.2.1.length i.2.2.2.2.1) i.2.2.1.length (nats i.2.2.1) i.2.2.2.2.2) (fun i => [(0, .int .i64 (n : Int)), (1, .slice p rs.length c), (9, .slice (some ⟨lb, 0, none⟩) n n), (2, .int .i64 (i.2.1 : Int)), (3, .int .i64 (t : Int)), (10, .slice i.2.2.2.1 i.2.2.1.length i.2.2.2.2.1)]) (fun i => i.2.2.2.2.2 :: iseg lb n (distS (EU rs) n t) :: η) (fun i => i.1) ((distS (EU rs) n t r0).toNat, r0, [], none, 0, []) ⟨hrn, by simp only; omega, by simp, rfl, OSl.nil 3 1⟩ ⟨rfl, rfl, rfl, rfl, rfl, rfl, trivial⟩ rfl ?_
  rintro ⟨k, r, l, a, cap, seg⟩ ⟨hrn', hdk, hlen, hw, ho⟩
  simp only at hrn' hdk hlen hw ho
  refine T.seq ?_
  refine T.seq ?_
  refine T.region ?_
  refine TL.move hF rfl rfl ?_
  refine TL.move hF rfl rfl ?_
  refine TL.bin hF rfl rfl rfl rfl ?_
  refine TL.nil ?_
  refine TQ.then_n ?_
  first | refine T.cond_d rfl (fun ht19 => ?_) (fun ht19 => ?_) | refine T.cond _ rfl (fun ht19 => ?_) (fun ht19 => ?_)
  · refine T.skip ?_
    refine TQ.then_n ?_
    refine T.block ?_
    refine T.seq ?_
    refine T.region ?_
    refine TL.move hF rfl rfl ?_
    refine TL.move hF rfl rfl ?_
    refine TL.buildSlice hF rfl (cs := #[.int .i64 (r : Int)]) (e := 3) (fun w => by kernel_rfl) rfl (fun b22 => ?_)
    refine TL.append hF 1 rfl rfl rfl ho (row_own (cs := [.int .i64 (r : Int)]) (e := 3) (by simp)).src rfl rfl (by simp [Value.oneCell']) (by omega) (by omega) rfl (fun a' cap' seg' ho' => ?_)
    refine TL.assign hF rfl rfl ?_
    refine TL.nil ?_
    refine TQ.then_n ?_
    refine T.seq ?_
    refine T.region ?_
    refine TL.assign hF rfl rfl ?_
    refine TL.nil ?_
    refine TQ.then_n ?_
    refine T.seq ?_
    refine T.seq ?_
    refine T.region ?_
    refine TL.assign hF rfl rfl ?_
    refine TL.nil ?_
    refine TQ.then_n ?_
    refine T.block ?_
    have hkpos : 0 < k := by
      rcases Nat.eq_zero_or_pos k with h | h
      · subst h; exact absurd (hD.zt r hrn' (by simpa using hdk)) (by have h : (r : Int) ≠ t := ht19; omega)
      · exact h
    obtain ⟨k', rfl⟩ : ∃ k', k = k' + 1 := ⟨k - 1, by omega⟩
    refine T.hsub (seg' :: iseg lb n (distS (EU rs) n t) :: η) (List.sublist_cons_self _ _) ?_
    refine T.loop (ι := Nat × Int) (fun i => i.1 ≤ n ∧ ((i.2 = -1 ∧ ∀ b, b < i.1 → ¬ (distS (EU rs) n t b = distS (EU rs) n t r - 1 ∧ EU rs r b = true)) ∨ (i.2 = (nextS (EU rs) n (distS (EU rs) n t) r : Nat) ∧ nextS (EU rs) n (distS (EU rs) n t) r < n ∧ distS (EU rs) n t (nextS (EU rs) n (distS (EU rs) n t) r) = distS (EU rs) n t r - 1))) (fun i => [(0, .int .i64 (n : Int)), (1, .slice p rs.length c), (9, .slice (some ⟨lb, 0, none⟩) n n), (2, .int .i64 (r : Int)), (3, .int .i64 (t : Int)), (10, .slice a' (l.length + 1) cap'), (11, .int .i64 i.2), (12, .int .i64 (i.1 : Int))]) (fun i => seg' :: iseg lb n (distS (EU rs) n t) :: η) (fun i => n - i.1) (0, -1) ⟨Nat.zero_le _, .inl ⟨rfl, by omega⟩⟩ ⟨rfl, rfl, rfl, rfl, rfl, rfl, rfl, rfl, trivial⟩ rfl ?_
    rintro ⟨j, nx⟩ ⟨hj, hx⟩
    simp only at hj hx
    have hbd := levS_le (E := EU rs) (n := n) (t := t) n r
    have hbd2 : -1 ≤ distS (EU rs) n t r ∧ distS (EU rs) n t r ≤ n := hbd
    refine T.seq ?_
    refine T.seq ?_
    refine T.region ?_
    refine TL.move hF rfl rfl ?_
    refine TL.move hF rfl rfl ?_
    refine TL.bin hF rfl rfl rfl rfl ?_
    refine TL.move hF rfl rfl ?_
    refine TL.gd (t := 27) rfl (fun g7_27 => ?_) (fun g7_27 => ?_)
    · refine TL.on rfl rfl rfl (decide_eq_true g7_27) ?_
      refine TL.move hF rfl rfl ?_
      refine TL.on rfl rfl rfl (decide_eq_true g7_27) ?_
      refine TL.bin hF rfl rfl rfl rfl ?_
      refine TL.pickT hF rfl (decide_eq_true g7_27) rfl rfl ?_
      refine TL.nil ?_
      refine TQ.then_n ?_
      first | refine T.cond_d rfl (fun ht30 => ?_) (fun ht30 => ?_) | refine T.cond _ rfl (fun ht30 => ?_) (fun ht30 => ?_)
      · refine T.skip ?_
        refine TQ.then_n ?_
        refine T.seq ?_
        refine T.block ?_
        refine T.seq ?_
        by_cases hc : distS (EU rs) n t j = distS (EU rs) n t r - 1
        · refine T.draw ?_
          refine DR.stepV [_] rfl [(9, _, none)] rfl rfl ⟨⟨rfl, by kernel_rfl⟩, trivial⟩ (fun ext => TL.move hF rfl rfl TL.fin) ?_
          refine DR.stepV [_, _] rfl [(12, _, none)] rfl rfl ⟨⟨rfl, by kernel_rfl⟩, trivial⟩ (fun ext => TL.move hF rfl rfl TL.fin) ?_
          refine DR.stepV [_, _, _] rfl [(33, _, some 0), (34, _, some 1)] rfl rfl ⟨⟨rfl, rfl, rfl⟩, ⟨rfl, rfl, rfl⟩, trivial⟩ (fun ext => TL.indexAddr hF rfl rfl ⟨_, rfl, rfl⟩ (by omega) (by omega) rfl TL.fin) ?_
          refine DR.stepV [_, _, _, _] rfl [(35, _, some 2)] rfl rfl ⟨⟨rfl, rfl, rfl⟩, trivial⟩ (fun ext => TL.load hF rfl (iseg_at (f := distS (EU rs) n t) (n := n) (j := j) (by simp) (by omega)) rfl TL.fin) ?_
          refine DR.stepV [_, _, _, _, _] rfl [(9, _, none)] rfl rfl ⟨⟨rfl, by kernel_rfl⟩, trivial⟩ (fun ext => TL.move hF rfl rfl TL.fin) ?_
          refine DR.stepV [_, _, _, _, _, _] rfl [(2, _, none)] rfl rfl ⟨⟨rfl, by kernel_rfl⟩, trivial⟩ (fun ext => TL.move hF rfl rfl TL.fin) ?_
          refine DR.stepV [_, _, _, _, _, _, _] rfl [(37, _, some 4), (38, _, some 5)] rfl rfl ⟨⟨rfl, rfl, rfl⟩, ⟨rfl, rfl, rfl⟩, trivial⟩ (fun ext => TL.indexAddr hF rfl rfl ⟨_, rfl, rfl⟩ (by omega) (by omega) rfl TL.fin) ?_
          refine DR.stepV [_, _, _, _, _, _, _, _] rfl [(39, _, some 6)] rfl rfl ⟨⟨rfl, rfl, rfl⟩, trivial⟩ (fun ext => TL.load hF rfl (iseg_at (f := distS (EU rs) n t) (n := n) (j := r) (by simp) (by omega)) rfl TL.fin) ?_
          refine DR.stepV [_, _, _, _, _, _, _, _, _] rfl [(40, _, some 7)] rfl rfl ⟨⟨rfl, rfl, rfl⟩, trivial⟩ (fun ext => TL.sub hF rfl rfl (by omega) (by omega) rfl TL.fin) ?_
          refine DR.stepV [_, _, _, _, _, _, _, _, _, _] rfl [(36, _, some 3), (41, _, some 8)] rfl rfl ⟨⟨rfl, rfl, rfl⟩, ⟨rfl, rfl, rfl⟩, trivial⟩ (fun ext => TL.bin hF rfl rfl rfl rfl TL.fin) ?_
          refine DR.stepV [_, _, _, _, _, _, _, _, _, _, _] rfl [(42, _, some 9)] rfl rfl ⟨⟨rfl, rfl, rfl⟩, trivial⟩ (fun ext => TL.move hF rfl rfl TL.fin) ?_
          refine DR.stepV [_, _, _, _, _, _, _, _, _, _, _, _] rfl [(1, _, none), (43, _, some 10)] rfl rfl ⟨⟨rfl, by kernel_rfl⟩, ⟨rfl, rfl, rfl⟩, trivial⟩ (fun ext => TL.on rfl rfl rfl (decide_eq_true hc) <| TL.move hF rfl rfl TL.fin) ?_
          refine DR.stepV [_, _, _, _, _, _, _, _, _, _, _, _, _] rfl [(2, _, none), (43, _, some 10)] rfl rfl ⟨⟨rfl, by kernel_rfl⟩, ⟨rfl, rfl, rfl⟩, trivial⟩ (fun ext => TL.on rfl rfl rfl (decide_eq_true hc) <| TL.move hF rfl rfl TL.fin) ?_
          refine DR.stepV [_, _, _, _, _, _, _, _, _, _, _, _, _, _] rfl [(12, _, none), (43, _, some 10)] rfl rfl ⟨⟨rfl, by kernel_rfl⟩, ⟨rfl, rfl, rfl⟩, trivial⟩ (fun ext => TL.on rfl rfl rfl (decide_eq_true hc) <| TL.move hF rfl rfl TL.fin) ?_
          refine DR.done [(46, _), (45, _), (44, _), (43, _), (42, _), (41, _), (40, _), (39, _), (38, _), (37, _), (36, _), (35, _), (34, _), (33, _)] [_, _] mixed (by kernel_rfl) (by kernel_rfl) (by kernel_rfl) rfl rfl ?_
          refine TL.on rfl rfl rfl (decide_eq_true hc) ?_
          refine TL.callV hF (Uses_fn r j false hr hl hb) rfl rfl ?_
          refine TL.pickT hF rfl (decide_eq_true hc) rfl rfl ?_
          refine TL.nil ?_
          refine TQ.then_n ?_
          refine T.cond _ rfl (fun ht48 => ?_) (fun ht48 => ?_)
          · refine T.region ?_
            refine TL.move hF rfl rfl ?_
            refine TL.assign hF rfl rfl ?_
            refine TL.nil ?_
            refine TQ.block_n ?_
            refine TQ.then_n ?_
            refine T.region ?_
            refine TL.move hF rfl rfl ?_
            refine TL.add hF rfl rfl (by omega) (by omega) rfl ?_
            refine TL.assign hF rfl rfl ?_
            refine TL.nil ?_
            obtain ⟨hnx, hnr⟩ : nx = -1 ∧ ∀ b, b < j → ¬ (distS (EU rs) n t b = distS (EU rs) n t r - 1 ∧ EU rs r b = true) := by
              rcases hx with h | ⟨h, _⟩
              · exact h
              · exfalso; have ht30' : nx < 0 := ht30; omega
            have hns : nextS (EU rs) n (distS (EU rs) n t) r = j := nextS_is (by omega) ⟨hc, ht48⟩ hnr
            exact TQ.round (j + 1, (j : Int)) ⟨by simp only; omega, .inr ⟨by rw [hns], by omega, by rw [hns]; exact hc⟩⟩ (by simp only; omega) ⟨rfl, rfl, rfl, rfl, rfl, rfl, rfl, rfl, trivial⟩ rfl
          · refine T.skip ?_
            refine TQ.block_n ?_
            refine TQ.then_n ?_
            refine T.region ?_
            refine TL.move hF rfl rfl ?_
            refine TL.add hF rfl rfl (by omega) (by omega) rfl ?_
            refine TL.assign hF rfl rfl ?_
            refine TL.nil ?_
            obtain ⟨hnx, hnr⟩ : nx = -1 ∧ ∀ b, b < j → ¬ (distS (EU rs) n t b = distS (EU rs) n t r - 1 ∧ EU rs r b = true) := by
              rcases hx with h | ⟨h, _⟩
              · exact h
              · exfalso; have ht30' : nx < 0 := ht30; omega
            refine TQ.round (j + 1, nx) ⟨by simp only; omega, .inl ⟨hnx, fun b hb3 => ?_⟩⟩ (by simp only; omega) ⟨rfl, rfl, rfl, rfl, rfl, rfl, rfl, rfl, trivial⟩ rfl
            by_cases hbj : b = j
            · subst hbj; simp_all
            · exact hnr b (by simp only at hb3; omega)
        · refine T.draw ?_
          refine DR.stepV [_] rfl [(9, _, none)] rfl rfl ⟨⟨rfl, by kernel_rfl⟩, trivial⟩ (fun ext => TL.move hF rfl rfl TL.fin) ?_
          refine DR.stepV [_, _] rfl [(12, _, none)] rfl rfl ⟨⟨rfl, by kernel_rfl⟩, trivial⟩ (fun ext => TL.move hF rfl rfl TL.fin) ?_
          refine DR.stepV [_, _, _] rfl [(33, _, some 0), (34, _, some 1)] rfl rfl ⟨⟨rfl, rfl, rfl⟩, ⟨rfl, rfl, rfl⟩, trivial⟩ (fun ext => TL.indexAddr hF rfl rfl ⟨_, rfl, rfl⟩ (by omega) (by omega) rfl TL.fin) ?_
          refine DR.stepV [_, _, _, _] rfl [(35, _, some 2)] rfl rfl ⟨⟨rfl, rfl, rfl⟩, trivial⟩ (fun ext => TL.load hF rfl (iseg_at (f := distS (EU rs) n t) (n := n) (j := j) (by simp) (by omega)) rfl TL.fin) ?_
          refine DR.stepV [_, _, _, _, _] rfl [(9, _, none)] rfl rfl ⟨⟨rfl, by kernel_rfl⟩, trivial⟩ (fun ext => TL.move hF rfl rfl TL.fin) ?_
          refine DR.stepV [_, _, _, _, _, _] rfl [(2, _, none)] rfl rfl ⟨⟨rfl, by kernel_rfl⟩, trivial⟩ (fun ext => TL.move hF rfl rfl TL.fin) ?_
          refine DR.stepV [_, _, _, _, _, _, _] rfl [(37, _, some 4), (38, _, some 5)] rfl rfl ⟨⟨rfl, rfl, rfl⟩, ⟨rfl, rfl, rfl⟩, trivial⟩ (fun ext => TL.indexAddr hF rfl rfl ⟨_, rfl, rfl⟩ (by omega) (by omega) rfl TL.fin) ?_
          refine DR.stepV [_, _, _, _, _, _, _, _] rfl [(39, _, some 6)] rfl rfl ⟨⟨rfl, rfl, rfl⟩, trivial⟩ (fun ext => TL.load hF rfl (iseg_at (f := distS (EU rs) n t) (n := n) (j := r) (by simp) (by omega)) rfl TL.fin) ?_
          refine DR.stepV [_, _, _, _, _, _, _, _, _] rfl [(40, _, some 7)] rfl rfl ⟨⟨rfl, rfl, rfl⟩, trivial⟩ (fun ext => TL.sub hF rfl rfl (by omega) (by omega) rfl TL.fin) ?_
          refine DR.stepV [_, _, _, _, _, _, _, _, _, _] rfl [(36, _, some 3), (41, _, some 8)] rfl rfl ⟨⟨rfl, rfl, rfl⟩, ⟨rfl, rfl, rfl⟩, trivial⟩ (fun ext => TL.bin hF rfl rfl rfl rfl TL.fin) ?_
          refine DR.stepV [_, _, _, _, _, _, _, _, _, _, _] rfl [(42, _, some 9)] rfl rfl ⟨⟨rfl, rfl, rfl⟩, trivial⟩ (fun ext => TL.move hF rfl rfl TL.fin) ?_
          refine DR.stepV [_, _, _, _, _, _, _, _, _, _, _, _] rfl [(1, _, none), (43, _, some 10)] rfl rfl ⟨⟨rfl, by kernel_rfl⟩, ⟨rfl, rfl, rfl⟩, trivial⟩ (fun ext => TL.off hF rfl rfl rfl (decide_eq_false hc) rfl TL.fin) ?_
          refine DR.stepV [_, _, _, _, _, _, _, _, _, _, _, _, _] rfl [(2, _, none), (43, _, some 10)] rfl rfl ⟨⟨rfl, by kernel_rfl⟩, ⟨rfl, rfl, rfl⟩, trivial⟩ (fun ext => TL.off hF rfl rfl rfl (decide_eq_false hc) rfl TL.fin) ?_
          refine DR.stepV [_, _, _, _, _, _, _, _, _, _, _, _, _, _] rfl [(12, _, none), (43, _, some 10)] rfl rfl ⟨⟨rfl, by kernel_rfl⟩, ⟨rfl, rfl, rfl⟩, trivial⟩ (fun ext => TL.off hF rfl rfl rfl (decide_eq_false hc) rfl TL.fin) ?_
          refine DR.done [(46, _), (45, _), (44, _), (43, _), (42, _), (41, _), (40, _), (39, _), (38, _), (37, _), (36, _), (35, _), (34, _), (33, _)] [_, _] mixed (by kernel_rfl) (by kernel_rfl) (by kernel_rfl) rfl rfl ?_
          refine TL.off hF rfl rfl rfl (decide_eq_false hc) rfl ?_
          refine TL.pickF hF rfl (decide_eq_false hc) rfl rfl ?_
          refine TL.nil ?_
          refine TQ.then_n ?_
          refine T.cond_f rfl rfl ?_
          refine T.skip ?_
          refine TQ.block_n ?_
          refine TQ.then_n ?_
          refine T.region ?_
          refine TL.move hF rfl rfl ?_
          refine TL.add hF rfl rfl (by omega) (by omega) rfl ?_
          refine TL.assign hF rfl rfl ?_
          refine TL.nil ?_
          obtain ⟨hnx, hnr⟩ : nx = -1 ∧ ∀ b, b < j → ¬ (distS (EU rs) n t b = distS (EU rs) n t r - 1 ∧ EU rs r b = true) := by
            rcases hx with h | ⟨h, _⟩
            · exact h
            · exfalso; have ht30' : nx < 0 := ht30; omega
          refine TQ.round (j + 1, nx) ⟨by simp only; omega, .inl ⟨hnx, fun b hb3 => ?_⟩⟩ (by simp only; omega) ⟨rfl, rfl, rfl, rfl, rfl, rfl, rfl, rfl, trivial⟩ rfl
          by_cases hbj : b = j
          · subst hbj; simp_all
          · exact hnr b (by simp only at hb3; omega)
      · refine T.exit ?_
        refine TQ.then_x ?_
        refine TQ.then_x ?_
        refine TQ.block_x ?_
        refine TQ.then_n ?_
        refine T.region ?_
        refine TL.move hF rfl rfl ?_
        refine TL.assign hF rfl rfl ?_
        refine TL.nil ?_
        refine TQ.block_n ?_
        have h2 : nx = (nextS (EU rs) n (distS (EU rs) n t) r : Nat) ∧ nextS (EU rs) n (distS (EU rs) n t) r < n ∧ distS (EU rs) n t (nextS (EU rs) n (distS (EU rs) n t) r) = distS (EU rs) n t r - 1 := by
          rcases hx with ⟨h1, _⟩ | h2
          · exfalso; have ht30' : ¬ nx < 0 := ht30; omega
          · exact h2
        obtain ⟨hnx, hnn, hnd⟩ := h2
        subst hnx
        have e1 : (l ++ [r]).length = l.length + 1 := by simp
        exact TQ.round (k', nextS (EU rs) n (distS (EU rs) n t) r, l ++ [r], a', cap', seg') ⟨hnn, by simp only; omega, by simp only [e1]; omega, by rw [hw]; simp [wayS], by simpa using ho'⟩ (by simp only; omega) ⟨rfl, rfl, rfl, rfl, rfl, congrArg (fun z => some (Value.slice a' z cap')) e1.symm, trivial⟩ rfl
    · refine TL.off hF rfl rfl rfl (decide_eq_false g7_27) rfl ?_
      refine TL.off hF rfl rfl rfl (decide_eq_false g7_27) rfl ?_
      refine TL.pickF hF rfl (decide_eq_false g7_27) rfl rfl ?_
      refine TL.nil ?_
      refine TQ.then_n ?_
      refine T.cond_f rfl rfl ?_
      refine T.exit ?_
      refine TQ.then_x ?_
      refine TQ.then_x ?_
      refine TQ.block_x ?_
      refine TQ.then_n ?_
      refine T.region ?_
      refine TL.move hF rfl rfl ?_
      refine TL.assign hF rfl rfl ?_
      refine TL.nil ?_
      refine TQ.block_n ?_
      have h2 : nx = (nextS (EU rs) n (distS (EU rs) n t) r : Nat) ∧ nextS (EU rs) n (distS (EU rs) n t) r < n ∧ distS (EU rs) n t (nextS (EU rs) n (distS (EU rs) n t) r) = distS (EU rs) n t r - 1 := by
        rcases hx with ⟨h1, h3⟩ | h2
        · exfalso
          have g' : ¬ (j : Int) < n := g7_27
          obtain ⟨b, hb4, he, hdb⟩ := hD.dn r hrn' (by omega)
          exact h3 b (by omega) ⟨hdb, he⟩
        · exact h2
      obtain ⟨hnx, hnn, hnd⟩ := h2
      subst hnx
      have e1 : (l ++ [r]).length = l.length + 1 := by simp
      exact TQ.round (k', nextS (EU rs) n (distS (EU rs) n t) r, l ++ [r], a', cap', seg') ⟨hnn, by simp only; omega, by simp only [e1]; omega, by rw [hw]; simp [wayS], by simpa using ho'⟩ (by simp only; omega) ⟨rfl, rfl, rfl, rfl, rfl, congrArg (fun z => some (Value.slice a' z cap')) e1.symm, trivial⟩ rfl
  · refine T.exit ?_
    refine TQ.then_x ?_
    refine TQ.then_x ?_
    refine TQ.block_x ?_
    refine TQ.then_n ?_
    refine T.seq ?_
    refine T.region ?_
    refine TL.move hF rfl rfl ?_
    refine TL.assign hF rfl rfl ?_
    refine TL.nil ?_
    refine TQ.then_n ?_
    refine T.ret ?_
    refine TQ.hsub (seg :: η) (List.Sublist.cons_cons _ (List.sublist_cons_self _ _)) ?_
    refine TQ.rets [8] _ rfl rfl rfl ?_
    have hrt : r = t := by have h : ¬ (r : Int) ≠ t := ht19; omega
    subst hrt
    have hk0 : k = 0 := by rw [hD.z] at hdk; omega
    subst hk0
    have e : l.length = (distS (EU rs) n r r0).toNat := by omega
    have e2 : wayS (EU rs) n (distS (EU rs) n r) (distS (EU rs) n r r0).toNat r0 = l := by rw [hw]; simp [wayS]
    rw [e2, ← e]
    exact ⟨a, cap, seg, rfl, rfl, ho⟩
/-- What 'Reason' of the document hands over. -/
def reasonS (rels : Int) (rs : List RuleD) : List Nat × Int :=
  if check rels rs ≠ 0 then ([], check rels rs)
  else if (bestS (EU rs) (ED rs) rels.toNat rels.toNat).length = 0 then ([], 4) else (bestS (EU rs) (ED rs) rels.toNat rels.toNat, 0)
theorem lessN_fn {a b : Option Addr} {xs ys : List Nat} {ca cb : Nat} (hx : Row S w0 η a (nats xs)) (hy : Row S w0 η b (nats ys)) (hl : xs.length < 2 ^ 63) :
    Rt Try.prog 42 [.slice a xs.length ca, .slice b ys.length cb].toArray S w0 η (fun v η' => v = .bool (less (casts xs) (casts ys)) ∧ η' = η) := by
  have h := less_fn (a := a) (b := b) (xs := casts xs) (ys := casts ys) (ca := ca) (cb := cb) (by unfold casts; rw [← nats_ints]; exact hx) (by unfold casts; rw [← nats_ints]; exact hy) (by simpa [casts] using hl)
  simp only [casts, List.length_map] at h
  exact h

set_option maxHeartbeats 2000000 in
theorem Reason_fn {p : Option Addr} {rs : List RuleD} {c : Nat} (rels : Int) (hr : Rules S w0 [] p rs) (hl : rs.length < 2 ^ 63) :
    Rt Try.prog 13 [.int .i64 rels, .slice p rs.length c].toArray S w0 η (fun v η' => ∃ a cap segs, v = .tuple #[.slice a (reasonS rels rs).1.length cap, .int .i64 (reasonS rels rs).2] ∧ η' = segs ++ η ∧ Row S w0 segs a (nats (reasonS rels rs).1)) := by
  have hF := open_wide
  refine Rt.of (fn := Try.f13) Try.func13 rfl rfl ?_
  refine T.seq ?_
  refine T.region ?_
  refine TL.assign hF rfl rfl ?_
  refine TL.assign hF rfl rfl ?_
  refine TL.nil ?_
  refine TQ.then_n ?_
  refine T.seq ?_
  refine T.seq ?_
  refine T.region ?_
  refine TL.move hF rfl rfl ?_
  refine TL.move hF rfl rfl ?_
  refine TL.callV hF (Check_fn rels hr.ro hl) rfl rfl ?_
  refine TL.assign hF rfl rfl ?_
  refine TL.nil ?_
  refine TQ.then_n ?_
  refine T.seq ?_
  refine T.region ?_
  refine TL.move hF rfl rfl ?_
  refine TL.bin hF rfl rfl rfl rfl ?_
  refine TL.nil ?_
  refine TQ.then_n ?_
  first | refine T.cond_d rfl (fun ht15 => ?_) (fun ht15 => ?_) | refine T.cond _ rfl (fun ht15 => ?_) (fun ht15 => ?_)
  · refine T.seq ?_
    refine T.region ?_
    refine TL.move hF rfl rfl ?_
    refine TL.assign hF rfl rfl ?_
    refine TL.assign hF rfl rfl ?_
    refine TL.nil ?_
    refine TQ.then_n ?_
    refine T.ret ?_
    refine TQ.then_r ?_
    refine TQ.rets [4, 5] _ rfl rfl rfl ?_
    have e : reasonS rels rs = ([], check rels rs) := by unfold reasonS; rw [if_pos ht15]
    rw [e]
    exact ⟨none, 0, [], rfl, rfl, ⟨fun h => by simp at h, fun i v h => by simp at h⟩⟩
  · refine T.skip ?_
    refine TQ.then_n ?_
    refine T.seq ?_
    refine T.region ?_
    refine TL.assign hF rfl rfl ?_
    refine TL.nil ?_
    refine TQ.then_n ?_
    refine T.seq ?_
    refine T.seq ?_
    refine T.region ?_
    refine TL.assign hF rfl rfl ?_
    refine TL.nil ?_
    refine TQ.then_n ?_
    refine T.block ?_
    obtain ⟨hk1, hk2, hk3, hk4⟩ := check_ok (Classical.not_not.1 ht15)
    obtain ⟨n, rfl⟩ : ∃ n : Nat, rels = (n : Int) := ⟨rels.toNat, by omega⟩
    have hb := errs_body hk4
    have hblen : ∀ k, k ≤ n → (bestS (EU rs) (ED rs) n k).length ≤ n ∧ ∀ j, j ≤ n → (rowS (EU rs) (ED rs) n k (bestS (EU rs) (ED rs) n k) j).length ≤ n ∨ k = n := by
      intro k
      induction k with
      | zero => intro _; exact ⟨by simp [bestS], fun j hj => by
          by_cases h0 : 0 = n
          · exact .inr h0
          · left
            induction j with
            | zero => simp [rowS, bestS]
            | succ j ih => rw [rowS_succ]; exact tryS_len (by omega) (by omega) (ih (by omega))⟩
      | succ k ih =>
        intro hk
        obtain ⟨h1, h2⟩ := ih (by omega)
        have h3 : (bestS (EU rs) (ED rs) n (k + 1)).length ≤ n := by
          rw [bestS_succ]; rcases h2 n (Nat.le_refl n) with h | h
          · exact h
          · omega
        refine ⟨h3, fun j hj => ?_⟩
        by_cases h0 : k + 1 = n
        · exact .inr h0
        · left
          induction j with
          | zero => exact h3
          | succ j ih2 => rw [rowS_succ]; exact tryS_len (by omega) (by omega) (ih2 (by omega))
    refine T.hnil ?_
    refine T.loop (ι := Nat × Option Addr × Nat × Seg) (fun i => i.1 ≤ n ∧ OSl 3 1 (.slice i.2.1 (bestS (EU rs) (ED rs) n i.1).length i.2.2.1) (bestS (EU rs) (ED rs) n i.1).length (nats (bestS (EU rs) (ED rs) n i.1)) i.2.2.2) (fun i => [(0, .int .i64 (n : Int)), (1, .slice p rs.length c), (7, .slice i.2.1 (bestS (EU rs) (ED rs) n i.1).length i.2.2.1), (8, .int .i64 (i.1 : Int))]) (fun i => i.2.2.2 :: η) (fun i => n - i.1) (0, none, 0, []) ⟨Nat.zero_le _, OSl.nil 3 1⟩ ⟨rfl, rfl, rfl, rfl, trivial⟩ rfl ?_
    rintro ⟨k, oa, oc, og⟩ ⟨hk, ho⟩
    simp only at hk ho
    refine T.seq ?_
    refine T.seq ?_
    refine T.region ?_
    refine TL.move hF rfl rfl ?_
    refine TL.move hF rfl rfl ?_
    refine TL.bin hF rfl rfl rfl rfl ?_
    refine TL.nil ?_
    refine TQ.then_n ?_
    first | refine T.cond_d rfl (fun ht19 => ?_) (fun ht19 => ?_) | refine T.cond _ rfl (fun ht19 => ?_) (fun ht19 => ?_)
    · refine T.skip ?_
      refine TQ.then_n ?_
      refine T.seq ?_
      refine T.block ?_
      refine T.seq ?_
      refine T.region ?_
      refine TL.assign hF rfl rfl ?_
      refine TL.nil ?_
      refine TQ.then_n ?_
      refine T.block ?_
      refine T.loop (ι := Nat × Option Addr × Nat × Seg) (fun i => i.1 ≤ n ∧ OSl 3 1 (.slice i.2.1 (rowS (EU rs) (ED rs) n k (bestS (EU rs) (ED rs) n k) i.1).length i.2.2.1) (rowS (EU rs) (ED rs) n k (bestS (EU rs) (ED rs) n k) i.1).length (nats (rowS (EU rs) (ED rs) n k (bestS (EU rs) (ED rs) n k) i.1)) i.2.2.2) (fun i => [(0, .int .i64 (n : Int)), (1, .slice p rs.length c), (7, .slice i.2.1 (rowS (EU rs) (ED rs) n k (bestS (EU rs) (ED rs) n k) i.1).length i.2.2.1), (8, .int .i64 (k : Int)), (9, .int .i64 (i.1 : Int))]) (fun i => i.2.2.2 :: η) (fun i => n - i.1) (0, oa, oc, og) ⟨Nat.zero_le _, ho⟩ ⟨rfl, rfl, rfl, rfl, rfl, trivial⟩ rfl ?_
      rintro ⟨j, oa, oc, og⟩ ⟨hj, ho⟩
      simp only at hj ho
      have hkn : k < n := by have h : (k : Int) < n := ht19; omega
      have hlen : (rowS (EU rs) (ED rs) n k (bestS (EU rs) (ED rs) n k) j).length ≤ n := by rcases (hblen k (by omega)).2 j hj with h | h; exact h; omega
      refine T.seq ?_
      refine T.seq ?_
      refine T.region ?_
      refine TL.move hF rfl rfl ?_
      refine TL.move hF rfl rfl ?_
      refine TL.bin hF rfl rfl rfl rfl ?_
      refine TL.nil ?_
      refine TQ.then_n ?_
      first | refine T.cond_d rfl (fun ht24 => ?_) (fun ht24 => ?_) | refine T.cond _ rfl (fun ht24 => ?_) (fun ht24 => ?_)
      · refine T.skip ?_
        refine TQ.then_n ?_
        refine T.seq ?_
        refine T.block ?_
        refine T.seq ?_
        refine T.seq ?_
        refine T.region ?_
        refine TL.move hF rfl rfl ?_
        refine TL.move hF rfl rfl ?_
        refine TL.move hF rfl rfl ?_
        refine TL.callV hF (Uses_fn k j true hr hl hb) rfl rfl ?_
        refine TL.not hF rfl rfl ?_
        refine TL.move hF rfl rfl ?_
        refine TL.gb (t := 32) rfl (fun g11_32 => ?_) (fun g11_32 => ?_)
        · refine TL.off hF rfl rfl rfl g11_32 rfl ?_
          refine TL.off hF rfl rfl rfl g11_32 rfl ?_
          refine TL.off hF rfl rfl rfl g11_32 rfl ?_
          refine TL.off hF rfl rfl rfl g11_32 rfl ?_
          refine TL.off hF rfl rfl rfl g11_32 rfl ?_
          refine TL.off hF rfl rfl rfl g11_32 rfl ?_
          refine TL.off hF rfl rfl rfl g11_32 rfl ?_
          refine TL.off hF rfl rfl rfl g11_32 rfl ?_
          refine TL.pickT hF rfl g11_32 rfl rfl ?_
          refine TL.nil ?_
          refine TQ.then_n ?_
          refine T.cond_t rfl rfl ?_
          refine T.exit ?_
          refine TQ.then_x ?_
          refine TQ.block_x ?_
          refine TQ.then_n ?_
          refine T.region ?_
          refine TL.move hF rfl rfl ?_
          refine TL.add hF rfl rfl (by omega) (by omega) rfl ?_
          refine TL.assign hF rfl rfl ?_
          refine TL.nil ?_
          have e : (rowS (EU rs) (ED rs) n k (bestS (EU rs) (ED rs) n k) (j + 1)) = (rowS (EU rs) (ED rs) n k (bestS (EU rs) (ED rs) n k) j) := by
            rw [rowS_succ, tryS, if_neg (by rintro ⟨h1, _⟩; simp [h1] at g11_32)]
          exact TQ.round (j + 1, oa, oc, og) ⟨by simp only; omega, by simp only; rw [e]; exact ho⟩ (by simp only; omega) ⟨rfl, rfl, congrArg (fun l : List Nat => some (Value.slice oa l.length oc)) e.symm, rfl, rfl, trivial⟩ rfl
        · refine TL.on rfl rfl rfl g11_32 ?_
          refine TL.move hF rfl rfl ?_
          refine TL.on rfl rfl rfl g11_32 ?_
          refine TL.move hF rfl rfl ?_
          refine TL.on rfl rfl rfl g11_32 ?_
          refine TL.move hF rfl rfl ?_
          refine TL.on rfl rfl rfl g11_32 ?_
          refine TL.call hF (far_fn hr hl hb (by omega) hkn) rfl rfl ?_
          rintro _ _ ⟨fb, rfl, rfl⟩
          refine TL.on rfl rfl rfl g11_32 ?_
          refine TL.move hF rfl rfl ?_
          refine TL.on rfl rfl rfl g11_32 ?_
          refine TL.indexAddr hF rfl rfl ⟨_, rfl, rfl⟩ (by omega) (by omega) rfl ?_
          refine TL.on rfl rfl rfl g11_32 ?_
          refine TL.load hF rfl (iseg_at (f := distS (EU rs) n k) (n := n) (j := j) (by simp) (by omega)) rfl ?_
          refine TL.on rfl rfl rfl g11_32 ?_
          refine TL.bin hF rfl rfl rfl rfl ?_
          refine TL.pickF hF rfl g11_32 rfl rfl ?_
          refine TL.nil ?_
          refine TQ.then_n ?_
          first | refine T.cond_d rfl (fun ht41 => ?_) (fun ht41 => ?_) | refine T.cond _ rfl (fun ht41 => ?_) (fun ht41 => ?_)
          · refine T.exit ?_
            refine TQ.then_x ?_
            refine TQ.block_x ?_
            refine TQ.then_n ?_
            refine T.region ?_
            refine TL.move hF rfl rfl ?_
            refine TL.add hF rfl rfl (by omega) (by omega) rfl ?_
            refine TL.assign hF rfl rfl ?_
            refine TL.nil ?_
            have e : (rowS (EU rs) (ED rs) n k (bestS (EU rs) (ED rs) n k) (j + 1)) = (rowS (EU rs) (ED rs) n k (bestS (EU rs) (ED rs) n k) j) := by
              rw [rowS_succ, tryS, if_neg (by rintro ⟨_, h2⟩; have h3 : distS (EU rs) n k j < 0 := ht41; omega)]
            refine TQ.pop ?_
            exact TQ.round (j + 1, oa, oc, og) ⟨by simp only; omega, by simp only; rw [e]; exact ho⟩ (by simp only; omega) ⟨rfl, rfl, congrArg (fun l : List Nat => some (Value.slice oa l.length oc)) e.symm, rfl, rfl, trivial⟩ rfl
          · refine T.skip ?_
            refine TQ.then_n ?_
            refine T.seq ?_
            refine T.region ?_
            refine TL.move hF rfl rfl ?_
            have hDl : distS (EU rs) n k j < n := levS_lt (by have h : (j : Int) < n := ht24; omega)
            refine TL.buildSlice hF rfl (cs := #[.int .i64 (k : Int)]) (e := 3) (fun w => by kernel_rfl) rfl (fun b43 => ?_)
            refine TL.move hF rfl rfl ?_
            refine TL.move hF rfl rfl ?_
            refine TL.move hF rfl rfl ?_
            refine TL.move hF rfl rfl ?_
            refine TL.call hF (way_fn (r0 := j) hr hl hb (by omega) hkn (by omega) (by omega)) rfl rfl ?_
            rintro _ _ ⟨wa, wc, wg, rfl, rfl, hwo⟩
            refine TL.append hF 1 (k := 1) (xs := [.int .i64 (k : Int)]) rfl rfl rfl ⟨rfl, .inr ⟨b43, 1, _, rfl, rfl, Nat.le_refl _, rfl, rfl⟩⟩ (hwo.row (by simp)).src rfl (by show _ = _ * 1; simp [wayS_len]) (nats1 _) (by omega) (by omega) rfl (fun a' cap' seg' ho' => ?_)
            have e1 : (candS (EU rs) n k j).length = 1 + (distS (EU rs) n k j).toNat := by simp [candS, wayS_len]; omega
            have ho2 : OSl 3 1 (.slice a' (candS (EU rs) n k j).length cap') (candS (EU rs) n k j).length (nats (candS (EU rs) n k j)) seg' := by rw [e1]; exact ho'
            refine TL.assign hF rfl rfl ?_
            refine TL.nil ?_
            refine TQ.then_n ?_
            refine T.seq ?_
            refine T.region ?_
            refine TL.move hF rfl rfl ?_
            refine TL.len hF rfl rfl ?_
            refine TL.bin hF rfl rfl rfl rfl ?_
            refine TL.move hF rfl rfl ?_
            refine TL.gd (t := 53) rfl (fun g13_53 => ?_) (fun g13_53 => ?_)
            · refine TL.off hF rfl rfl rfl (decide_eq_true g13_53) rfl ?_
              refine TL.off hF rfl rfl rfl (decide_eq_true g13_53) rfl ?_
              refine TL.off hF rfl rfl rfl (decide_eq_true g13_53) rfl ?_
              refine TL.pickT hF rfl (decide_eq_true g13_53) rfl rfl ?_
              refine TL.nil ?_
              refine TQ.then_n ?_
              refine T.cond_t rfl rfl ?_
              refine T.region ?_
              refine TL.move hF rfl rfl ?_
              refine TL.assign hF rfl rfl ?_
              refine TL.nil ?_
              refine TQ.block_n ?_
              refine TQ.then_n ?_
              refine T.region ?_
              refine TL.move hF rfl rfl ?_
              refine TL.add hF rfl rfl (by omega) (by omega) rfl ?_
              refine TL.assign hF rfl rfl ?_
              refine TL.nil ?_
              have e : (rowS (EU rs) (ED rs) n k (bestS (EU rs) (ED rs) n k) (j + 1)) = candS (EU rs) n k j := by
                rw [rowS_succ, tryS, if_pos ⟨by simpa using g11_32, by have h3 : ¬ distS (EU rs) n k j < 0 := ht41; omega⟩, betterS, if_pos (by first | exact .inl (by have h := g13_53; simp only at h; omega) | exact .inr ht57)]
              refine TQ.hsub (seg' :: η) (List.Sublist.cons _ (List.Sublist.cons_cons _ (List.Sublist.cons _ (List.sublist_cons_self _ _)))) ?_
              exact TQ.round (j + 1, a', cap', seg') ⟨by simp only; omega, by simp only; rw [e]; exact ho2⟩ (by simp only; omega) ⟨rfl, rfl, congrArg (fun z => some (Value.slice a' z cap')) (by rw [e, e1]), rfl, rfl, trivial⟩ rfl
            · refine TL.on rfl rfl rfl (decide_eq_false g13_53) ?_
              refine TL.move hF rfl rfl ?_
              refine TL.on rfl rfl rfl (decide_eq_false g13_53) ?_
              refine TL.move hF rfl rfl ?_
              refine TL.on rfl rfl rfl (decide_eq_false g13_53) ?_
              refine TL.callV hF ((by rw [← e1]; exact lessN_fn (ho2.row (by simp)) (ho.row (by simp)) (by omega))) rfl rfl ?_
              refine TL.pickF hF rfl (decide_eq_false g13_53) rfl rfl ?_
              refine TL.nil ?_
              refine TQ.then_n ?_
              refine T.cond _ rfl (fun ht57 => ?_) (fun ht57 => ?_)
              · refine T.region ?_
                refine TL.move hF rfl rfl ?_
                refine TL.assign hF rfl rfl ?_
                refine TL.nil ?_
                refine TQ.block_n ?_
                refine TQ.then_n ?_
                refine T.region ?_
                refine TL.move hF rfl rfl ?_
                refine TL.add hF rfl rfl (by omega) (by omega) rfl ?_
                refine TL.assign hF rfl rfl ?_
                refine TL.nil ?_
                have e : (rowS (EU rs) (ED rs) n k (bestS (EU rs) (ED rs) n k) (j + 1)) = candS (EU rs) n k j := by
                  rw [rowS_succ, tryS, if_pos ⟨by simpa using g11_32, by have h3 : ¬ distS (EU rs) n k j < 0 := ht41; omega⟩, betterS, if_pos (by first | exact .inl (by have h := g13_53; simp only at h; omega) | exact .inr ht57)]
                refine TQ.hsub (seg' :: η) (List.Sublist.cons _ (List.Sublist.cons_cons _ (List.Sublist.cons _ (List.sublist_cons_self _ _)))) ?_
                exact TQ.round (j + 1, a', cap', seg') ⟨by simp only; omega, by simp only; rw [e]; exact ho2⟩ (by simp only; omega) ⟨rfl, rfl, congrArg (fun z => some (Value.slice a' z cap')) (by rw [e, e1]), rfl, rfl, trivial⟩ rfl
              · refine T.skip ?_
                refine TQ.block_n ?_
                refine TQ.then_n ?_
                refine T.region ?_
                refine TL.move hF rfl rfl ?_
                refine TL.add hF rfl rfl (by omega) (by omega) rfl ?_
                refine TL.assign hF rfl rfl ?_
                refine TL.nil ?_
                have e : (rowS (EU rs) (ED rs) n k (bestS (EU rs) (ED rs) n k) (j + 1)) = (rowS (EU rs) (ED rs) n k (bestS (EU rs) (ED rs) n k) j) := by
                  rw [rowS_succ, tryS, if_pos ⟨by simpa using g11_32, by have h3 : ¬ distS (EU rs) n k j < 0 := ht41; omega⟩, betterS, if_neg (by rintro (h | h); (have h' := g13_53; simp only at h'; omega); (rw [ht57] at h; cases h))]
                refine TQ.hsub (og :: η) (List.Sublist.cons _ (List.Sublist.cons _ (List.sublist_cons_self _ _))) ?_
                exact TQ.round (j + 1, oa, oc, og) ⟨by simp only; omega, by simp only; rw [e]; exact ho⟩ (by simp only; omega) ⟨rfl, rfl, congrArg (fun l : List Nat => some (Value.slice oa l.length oc)) e.symm, rfl, rfl, trivial⟩ rfl
      · refine T.exit ?_
        refine TQ.then_x ?_
        refine TQ.then_x ?_
        refine TQ.block_x ?_
        refine TQ.block_n ?_
        refine TQ.then_n ?_
        refine T.region ?_
        refine TL.move hF rfl rfl ?_
        refine TL.add hF rfl rfl (by omega) (by omega) rfl ?_
        refine TL.assign hF rfl rfl ?_
        refine TL.nil ?_
        have hjn : j = n := by have h : ¬ (j : Int) < n := ht24; omega
        subst hjn
        exact TQ.round (k + 1, oa, oc, og) ⟨by simp only; omega, by simp only; rw [bestS_succ]; exact ho⟩ (by simp only; omega) ⟨rfl, rfl, congrArg (fun l : List Nat => some (Value.slice oa l.length oc)) (bestS_succ ..).symm, rfl, trivial⟩ rfl
    · refine T.exit ?_
      refine TQ.then_x ?_
      refine TQ.then_x ?_
      refine TQ.block_x ?_
      refine TQ.then_n ?_
      refine T.seq ?_
      refine T.seq ?_
      refine T.region ?_
      refine TL.move hF rfl rfl ?_
      refine TL.len hF rfl rfl ?_
      refine TL.bin hF rfl rfl rfl rfl ?_
      refine TL.nil ?_
      refine TQ.then_n ?_
      first | refine T.cond_d rfl (fun ht61 => ?_) (fun ht61 => ?_) | refine T.cond _ rfl (fun ht61 => ?_) (fun ht61 => ?_)
      · refine T.seq ?_
        refine T.region ?_
        refine TL.assign hF rfl rfl ?_
        refine TL.assign hF rfl rfl ?_
        refine TL.nil ?_
        refine TQ.then_n ?_
        refine T.ret ?_
        refine TQ.then_r ?_
        refine TQ.hsub η (List.sublist_cons_self _ _) ?_
        refine TQ.rets [4, 5] _ rfl rfl rfl ?_
        have hkn : k = n := by have h : ¬ (k : Int) < n := ht19; omega
        subst hkn
        have e : reasonS k rs = ([], 4) := by unfold reasonS; rw [if_neg (by simpa using ht15), if_pos (by rw [Int.toNat_natCast]; have h := ht61; simp only at h; omega)]
        rw [e]
        exact ⟨none, 0, [], rfl, rfl, ⟨fun h => by simp at h, fun i v h => by simp at h⟩⟩
      · refine T.skip ?_
        refine TQ.then_n ?_
        refine T.seq ?_
        refine T.region ?_
        refine TL.move hF rfl rfl ?_
        refine TL.assign hF rfl rfl ?_
        refine TL.assign hF rfl rfl ?_
        refine TL.nil ?_
        refine TQ.then_n ?_
        refine T.ret ?_
        refine TQ.rets [4, 5] _ rfl rfl rfl ?_
        have hkn : k = n := by have h : ¬ (k : Int) < n := ht19; omega
        subst hkn
        have e : reasonS k rs = (bestS (EU rs) (ED rs) k k, 0) := by unfold reasonS; rw [if_neg (by simpa using ht15), if_neg (by rw [Int.toNat_natCast]; have h := ht61; simp only at h; omega), Int.toNat_natCast]
        rw [e]
        exact ⟨oa, oc, [og], rfl, rfl, ho.row (by simp)⟩
end Go.Proofs.Ytdehpaikapbckaa
