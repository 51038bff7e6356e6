/- Several texts in one. -/
import Derived.Test.YtdehpaikapbckaaPc
import Derived.Laws.StructEq
/- The reference's cycle of denial. -/
namespace Go.Proofs.Ytdehpaikapbckaa
open Go.Sl
variable {S : Nat → Prop} {w0 : World} {η : Heap}
set_option maxHeartbeats 2000000 in
theorem way_fn {p : Option Addr} {rs : List RuleD} {c n t r0 : Nat} (hr : Rules S w0 [] p rs) (hl : rs.length < 2 ^ 63) (hb : ∀ r ∈ rs, r.body.length < 2 ^ 63) (hn : n ≤ 1000) (htn : t < n) (hrn : r0 < n) (hd : 0 ≤ distS (EU rs) n t r0) :
    Rt Try.prog 41 [.int .i64 (n : Int), .slice p rs.length c, .int .i64 (r0 : Int), .int .i64 (t : Int)].toArray S w0 η (fun v η' => ∃ a cap seg, v = .slice a (distS (EU rs) n t r0).toNat cap ∧ η' = seg :: η ∧ OSl 3 1 (.slice a (distS (EU rs) n t r0).toNat cap) (distS (EU rs) n t r0).toNat (nats (wayS (EU rs) n (distS (EU rs) n t) (distS (EU rs) n t r0).toNat r0)) seg) := by
  have hF := open_wide
  refine Rt.of (fn := Try.f41) Try.func41 rfl rfl ?_
  refine T.seq ?_
  refine T.region ?_
  refine TL.assign hF rfl rfl ?_
  refine TL.nil ?_
  refine TQ.then_n ?_
  refine T.seq ?_
  refine T.region ?_
  refine TL.move hF rfl rfl ?_
  refine TL.move hF rfl rfl ?_
  refine TL.move hF rfl rfl ?_
  refine TL.call hF (far_fn hr hl hb hn htn) rfl rfl ?_
  rintro _ _ ⟨lb, rfl, rfl⟩
  refine TL.assign hF rfl rfl ?_
  refine TL.nil ?_
  refine TQ.then_n ?_
  refine T.seq ?_
  refine T.region ?_
  refine TL.assign hF rfl rfl ?_
  refine TL.nil ?_
  refine TQ.then_n ?_
  refine T.seq ?_
  refine T.block ?_
  refine T.hnil ?_
  have hD := distS_is (E := EU rs) htn
  have hlt0 : distS (EU rs) n t r0 < n := levS_lt hrn
  refine T.loop (ι := Nat × Nat × List Nat × Option Addr × Nat × Seg) (fun i => i.2.1 < n ∧ distS (EU rs) n t i.2.1 = i.1 ∧ i.2.2.1.length + i.1 = (distS (EU rs) n t r0).toNat ∧ wayS (EU rs) n (distS (EU rs) n t) (distS (EU rs) n t r0).toNat r0 = i.2.2.1 ++ wayS (EU rs) n (distS (EU rs) n t) i.1 i.2.1 ∧ OSl 3 1 (.slice i.2.2.2.1 i.2.2.1.length i.2.2.2.2.1) i.2.2.1.length (nats i.2.2.1) i.2.2.2.2.2) (fun i => [(0, .int .i64 (n : Int)), (1, .slice p rs.length c), (9, .slice (some ⟨lb, 0, none⟩) n n), (2, .int .i64 (i.2.1 : Int)), (3, .int .i64 (t : Int)), (10, .slice i.2.2.2.1 i.2.2.1.length i.2.2.2.2.1)]) (fun i => i.2.2.2.2.2 :: iseg lb n (distS (EU rs) n t) :: η) (fun i => i.1) ((distS (EU rs) n t r0).toNat, r0, [], none, 0, []) ⟨hrn, by simp only; omega, by simp, rfl, OSl.nil 3 1⟩ ⟨rfl, rfl, rfl, rfl, rfl, rfl, trivial⟩ rfl ?_
  rintro ⟨k, r, l, a, cap, seg⟩ ⟨hrn', hdk, hlen, hw, ho⟩
  simp only at hrn' hdk hlen hw ho
  refine T.seq ?_
  refine T.seq ?_
  refine T.region ?_
  refine TL.move hF rfl rfl ?_
  refine TL.move hF rfl rfl ?_
  refine TL.bin hF rfl rfl rfl rfl ?_
  refine TL.nil ?_
  refine TQ.then_n ?_
  first | refine T.cond_d rfl (fun ht19 => ?_) (fun ht19 => ?_) | refine T.cond _ rfl (fun ht19 => ?_) (fun ht19 => ?_)
  · refine T.skip ?_
    refine TQ.then_n ?_
    refine T.block ?_
    refine T.seq ?_
    refine T.region ?_
    refine TL.move hF rfl rfl ?_
    refine TL.move hF rfl rfl ?_
    refine TL.buildSlice hF rfl (cs := #[.int .i64 (r : Int)]) (e := 3) (fun w => by kernel_rfl) rfl (fun b22 => ?_)
    refine TL.append hF 1 rfl rfl rfl ho (row_own (cs := [.int .i64 (r : Int)]) (e := 3) (by simp)).src rfl rfl (by simp [Value.oneCell']) (by omega) (by omega) rfl (fun a' cap' seg' ho' => ?_)
    refine TL.assign hF rfl rfl ?_
    refine TL.nil ?_
    refine TQ.then_n ?_
    refine T.seq ?_
    refine T.region ?_
    refine TL.assign hF rfl rfl ?_
    refine TL.nil ?_
    refine TQ.then_n ?_
    refine T.seq ?_
    refine T.seq ?_
    refine T.region ?_
    refine TL.assign hF rfl rfl ?_
    refine TL.nil ?_
    refine TQ.then_n ?_
    refine T.block ?_
    have hkpos : 0 < k := by
      rcases Nat.eq_zero_or_pos k with h | h
      · subst h; exact absurd (hD.zt r hrn' (by simpa using hdk)) (by have h : (r : Int) ≠ t := ht19; omega)
      · exact h
    obtain ⟨k', rfl⟩ : ∃ k', k = k' + 1 := ⟨k - 1, by omega⟩
    refine T.hsub (seg' :: iseg lb n (distS (EU rs) n t) :: η) (List.sublist_cons_self _ _) ?_
    refine T.loop (ι := Nat × Int) (fun i => i.1 ≤ n ∧ ((i.2 = -1 ∧ ∀ b, b < i.1 → ¬ (distS (EU rs) n t b = distS (EU rs) n t r - 1 ∧ EU rs r b = true)) ∨ (i.2 = (nextS (EU rs) n (distS (EU rs) n t) r : Nat) ∧ nextS (EU rs) n (distS (EU rs) n t) r < n ∧ distS (EU rs) n t (nextS (EU rs) n (distS (EU rs) n t) r) = distS (EU rs) n t r - 1))) (fun i => [(0, .int .i64 (n : Int)), (1, .slice p rs.length c), (9, .slice (some ⟨lb, 0, none⟩) n n), (2, .int .i64 (r : Int)), (3, .int .i64 (t : Int)), (10, .slice a' (l.length + 1) cap'), (11, .int .i64 i.2), (12, .int .i64 (i.1 : Int))]) (fun i => seg' :: iseg lb n (distS (EU rs) n t) :: η) (fun i => n - i.1) (0, -1) ⟨Nat.zero_le _, .inl ⟨rfl, by omega⟩⟩ ⟨rfl, rfl, rfl, rfl, rfl, rfl, rfl, rfl, trivial⟩ rfl ?_
    rintro ⟨j, nx⟩ ⟨hj, hx⟩
    simp only at hj hx
    have hbd := levS_le (E := EU rs) (n := n) (t := t) n r
    have hbd2 : -1 ≤ distS (EU rs) n t r ∧ distS (EU rs) n t r ≤ n := hbd
    refine T.seq ?_
    refine T.seq ?_
    refine T.region ?_
    refine TL.move hF rfl rfl ?_
    refine TL.move hF rfl rfl ?_
    refine TL.bin hF rfl rfl rfl rfl ?_
    refine TL.move hF rfl rfl ?_
    refine TL.gd (t := 27) rfl (fun g7_27 => ?_) (fun g7_27 => ?_)
    · refine TL.on rfl rfl rfl (decide_eq_true g7_27) ?_
      refine TL.move hF rfl rfl ?_
      refine TL.on rfl rfl rfl (decide_eq_true g7_27) ?_
      refine TL.bin hF rfl rfl rfl rfl ?_
      refine TL.pickT hF rfl (decide_eq_true g7_27) rfl rfl ?_
      refine TL.nil ?_
      refine TQ.then_n ?_
      first | refine T.cond_d rfl (fun ht30 => ?_) (fun ht30 => ?_) | refine T.cond _ rfl (fun ht30 => ?_) (fun ht30 => ?_)
      · refine T.skip ?_
        refine TQ.then_n ?_
        refine T.seq ?_
        refine T.block ?_
        refine T.seq ?_
        by_cases hc : distS (EU rs) n t j = distS (EU rs) n t r - 1
        · refine T.draw ?_
          refine DR.stepV [_] rfl [(9, _, none)] rfl rfl ⟨⟨rfl, by kernel_rfl⟩, trivial⟩ (fun ext => TL.move hF rfl rfl TL.fin) ?_
          refine DR.stepV [_, _] rfl [(12, _, none)] rfl rfl ⟨⟨rfl, by kernel_rfl⟩, trivial⟩ (fun ext => TL.move hF rfl rfl TL.fin) ?_
          refine DR.stepV [_, _, _] rfl [(33, _, some 0), (34, _, some 1)] rfl rfl ⟨⟨rfl, rfl, rfl⟩, ⟨rfl, rfl, rfl⟩, trivial⟩ (fun ext => TL.indexAddr hF rfl rfl ⟨_, rfl, rfl⟩ (by omega) (by omega) rfl TL.fin) ?_
          refine DR.stepV [_, _, _, _] rfl [(35, _, some 2)] rfl rfl ⟨⟨rfl, rfl, rfl⟩, trivial⟩ (fun ext => TL.load hF rfl (iseg_at (f := distS (EU rs) n t) (n := n) (j := j) (by simp) (by omega)) rfl TL.fin) ?_
          refine DR.stepV [_, _, _, _, _] rfl [(9, _, none)] rfl rfl ⟨⟨rfl, by kernel_rfl⟩, trivial⟩ (fun ext => TL.move hF rfl rfl TL.fin) ?_
          refine DR.stepV [_, _, _, _, _, _] rfl [(2, _, none)] rfl rfl ⟨⟨rfl, by kernel_rfl⟩, trivial⟩ (fun ext => TL.move hF rfl rfl TL.fin) ?_
          refine DR.stepV [_, _, _, _, _, _, _] rfl [(37, _, some 4), (38, _, some 5)] rfl rfl ⟨⟨rfl, rfl, rfl⟩, ⟨rfl, rfl, rfl⟩, trivial⟩ (fun ext => TL.indexAddr hF rfl rfl ⟨_, rfl, rfl⟩ (by omega) (by omega) rfl TL.fin) ?_
          refine DR.stepV [_, _, _, _, _, _, _, _] rfl [(39, _, some 6)] rfl rfl ⟨⟨rfl, rfl, rfl⟩, trivial⟩ (fun ext => TL.load hF rfl (iseg_at (f := distS (EU rs) n t) (n := n) (j := r) (by simp) (by omega)) rfl TL.fin) ?_
          refine DR.stepV [_, _, _, _, _, _, _, _, _] rfl [(40, _, some 7)] rfl rfl ⟨⟨rfl, rfl, rfl⟩, trivial⟩ (fun ext => TL.sub hF rfl rfl (by omega) (by omega) rfl TL.fin) ?_
          refine DR.stepV [_, _, _, _, _, _, _, _, _, _] rfl [(36, _, some 3), (41, _, some 8)] rfl rfl ⟨⟨rfl, rfl, rfl⟩, ⟨rfl, rfl, rfl⟩, trivial⟩ (fun ext => TL.bin hF rfl rfl rfl rfl TL.fin) ?_
          refine DR.stepV [_, _, _, _, _, _, _, _, _, _, _] rfl [(42, _, some 9)] rfl rfl ⟨⟨rfl, rfl, rfl⟩, trivial⟩ (fun ext => TL.move hF rfl rfl TL.fin) ?_
          refine DR.stepV [_, _, _, _, _, _, _, _, _, _, _, _] rfl [(1, _, none), (43, _, some 10)] rfl rfl ⟨⟨rfl, by kernel_rfl⟩, ⟨rfl, rfl, rfl⟩, trivial⟩ (fun ext => TL.on rfl rfl rfl (decide_eq_true hc) <| TL.move hF rfl rfl TL.fin) ?_
          refine DR.stepV [_, _, _, _, _, _, _, _, _, _, _, _, _] rfl [(2, _, none), (43, _, some 10)] rfl rfl ⟨⟨rfl, by kernel_rfl⟩, ⟨rfl, rfl, rfl⟩, trivial⟩ (fun ext => TL.on rfl rfl rfl (decide_eq_true hc) <| TL.move hF rfl rfl TL.fin) ?_
          refine DR.stepV [_, _, _, _, _, _, _, _, _, _, _, _, _, _] rfl [(12, _, none), (43, _, some 10)] rfl rfl ⟨⟨rfl, by kernel_rfl⟩, ⟨rfl, rfl, rfl⟩, trivial⟩ (fun ext => TL.on rfl rfl rfl (decide_eq_true hc) <| TL.move hF rfl rfl TL.fin) ?_
          refine DR.done [(46, _), (45, _), (44, _), (43, _), (42, _), (41, _), (40, _), (39, _), (38, _), (37, _), (36, _), (35, _), (34, _), (33, _)] [_, _] mixed (by kernel_rfl) (by kernel_rfl) (by kernel_rfl) rfl rfl ?_
          refine TL.on rfl rfl rfl (decide_eq_true hc) ?_
          refine TL.callV hF (Uses_fn r j false hr hl hb) rfl rfl ?_
          refine TL.pickT hF rfl (decide_eq_true hc) rfl rfl ?_
          refine TL.nil ?_
          refine TQ.then_n ?_
          refine T.cond _ rfl (fun ht48 => ?_) (fun ht48 => ?_)
          · refine T.region ?_
            refine TL.move hF rfl rfl ?_
            refine TL.assign hF rfl rfl ?_
            refine TL.nil ?_
            refine TQ.block_n ?_
            refine TQ.then_n ?_
            refine T.region ?_
            refine TL.move hF rfl rfl ?_
            refine TL.add hF rfl rfl (by omega) (by omega) rfl ?_
            refine TL.assign hF rfl rfl ?_
            refine TL.nil ?_
            obtain ⟨hnx, hnr⟩ : nx = -1 ∧ ∀ b, b < j → ¬ (distS (EU rs) n t b = distS (EU rs) n t r - 1 ∧ EU rs r b = true) := by
              rcases hx with h | ⟨h, _⟩
              · exact h
              · exfalso; have ht30' : nx < 0 := ht30; omega
            have hns : nextS (EU rs) n (distS (EU rs) n t) r = j := nextS_is (by omega) ⟨hc, ht48⟩ hnr
            exact TQ.round (j + 1, (j : Int)) ⟨by simp only; omega, .inr ⟨by rw [hns], by omega, by rw [hns]; exact hc⟩⟩ (by simp only; omega) ⟨rfl, rfl, rfl, rfl, rfl, rfl, rfl, rfl, trivial⟩ rfl
          · refine T.skip ?_
            refine TQ.block_n ?_
            refine TQ.then_n ?_
            refine T.region ?_
            refine TL.move hF rfl rfl ?_
            refine TL.add hF rfl rfl (by omega) (by omega) rfl ?_
            refine TL.assign hF rfl rfl ?_
            refine TL.nil ?_
            obtain ⟨hnx, hnr⟩ : nx = -1 ∧ ∀ b, b < j → ¬ (distS (EU rs) n t b = distS (EU rs) n t r - 1 ∧ EU rs r b = true) := by
              rcases hx with h | ⟨h, _⟩
              · exact h
              · exfalso; have ht30' : nx < 0 := ht30; omega
            refine TQ.round (j + 1, nx) ⟨by simp only; omega, .inl ⟨hnx, fun b hb3 => ?_⟩⟩ (by simp only; omega) ⟨rfl, rfl, rfl, rfl, rfl, rfl, rfl, rfl, trivial⟩ rfl
            by_cases hbj : b = j
            · subst hbj; simp_all
            · exact hnr b (by simp only at hb3; omega)
        · refine T.draw ?_
          refine DR.stepV [_] rfl [(9, _, none)] rfl rfl ⟨⟨rfl, by kernel_rfl⟩, trivial⟩ (fun ext => TL.move hF rfl rfl TL.fin) ?_
          refine DR.stepV [_, _] rfl [(12, _, none)] rfl rfl ⟨⟨rfl, by kernel_rfl⟩, trivial⟩ (fun ext => TL.move hF rfl rfl TL.fin) ?_
          refine DR.stepV [_, _, _] rfl [(33, _, some 0), (34, _, some 1)] rfl rfl ⟨⟨rfl, rfl, rfl⟩, ⟨rfl, rfl, rfl⟩, trivial⟩ (fun ext => TL.indexAddr hF rfl rfl ⟨_, rfl, rfl⟩ (by omega) (by omega) rfl TL.fin) ?_
          refine DR.stepV [_, _, _, _] rfl [(35, _, some 2)] rfl rfl ⟨⟨rfl, rfl, rfl⟩, trivial⟩ (fun ext => TL.load hF rfl (iseg_at (f := distS (EU rs) n t) (n := n) (j := j) (by simp) (by omega)) rfl TL.fin) ?_
          refine DR.stepV [_, _, _, _, _] rfl [(9, _, none)] rfl rfl ⟨⟨rfl, by kernel_rfl⟩, trivial⟩ (fun ext => TL.move hF rfl rfl TL.fin) ?_
          refine DR.stepV [_, _, _, _, _, _] rfl [(2, _, none)] rfl rfl ⟨⟨rfl, by kernel_rfl⟩, trivial⟩ (fun ext => TL.move hF rfl rfl TL.fin) ?_
          refine DR.stepV [_, _, _, _, _, _, _] rfl [(37, _, some 4), (38, _, some 5)] rfl rfl ⟨⟨rfl, rfl, rfl⟩, ⟨rfl, rfl, rfl⟩, trivial⟩ (fun ext => TL.indexAddr hF rfl rfl ⟨_, rfl, rfl⟩ (by omega) (by omega) rfl TL.fin) ?_
          refine DR.stepV [_, _, _, _, _, _, _, _] rfl [(39, _, some 6)] rfl rfl ⟨⟨rfl, rfl, rfl⟩, trivial⟩ (fun ext => TL.load hF rfl (iseg_at (f := distS (EU rs) n t) (n := n) (j := r) (by simp) (by omega)) rfl TL.fin) ?_
          refine DR.stepV [_, _, _, _, _, _, _, _, _] rfl [(40, _, some 7)] rfl rfl ⟨⟨rfl, rfl, rfl⟩, trivial⟩ (fun ext => TL.sub hF rfl rfl (by omega) (by omega) rfl TL.fin) ?_
          refine DR.stepV [_, _, _, _, _, _, _, _, _, _] rfl [(36, _, some 3), (41, _, some 8)] rfl rfl ⟨⟨rfl, rfl, rfl⟩, ⟨rfl, rfl, rfl⟩, trivial⟩ (fun ext => TL.bin hF rfl rfl rfl rfl TL.fin) ?_
          refine DR.stepV [_, _, _, _, _, _, _, _, _, _, _] rfl [(42, _, some 9)] rfl rfl ⟨⟨rfl, rfl, rfl⟩, trivial⟩ (fun ext => TL.move hF rfl rfl TL.fin) ?_
          refine DR.stepV [_, _, _, _, _, _, _, _, _, _, _, _] rfl [(1, _, none), (43, _, some 10)] rfl rfl ⟨⟨rfl, by kernel_rfl⟩, ⟨rfl, rfl, rfl⟩, trivial⟩ (fun ext => TL.off hF rfl rfl rfl (decide_eq_false hc) rfl TL.fin) ?_
          refine DR.stepV [_, _, _, _, _, _, _, _, _, _, _, _, _] rfl [(2, _, none), (43, _, some 10)] rfl rfl ⟨⟨rfl, by kernel_rfl⟩, ⟨rfl, rfl, rfl⟩, trivial⟩ (fun ext => TL.off hF rfl rfl rfl (decide_eq_false hc) rfl TL.fin) ?_
          refine DR.stepV [_, _, _, _, _, _, _, _, _, _, _, _, _, _] rfl [(12, _, none), (43, _, some 10)] rfl rfl ⟨⟨rfl, by kernel_rfl⟩, ⟨rfl, rfl, rfl⟩, trivial⟩ (fun ext => TL.off hF rfl rfl rfl (decide_eq_false hc) rfl TL.fin) ?_
          refine DR.done [(46, _), (45, _), (44, _), (43, _), (42, _), (41, _), (40, _), (39, _), (38, _), (37, _), (36, _), (35, _), (34, _), (33, _)] [_, _] mixed (by kernel_rfl) (by kernel_rfl) (by kernel_rfl) rfl rfl ?_
          refine TL.off hF rfl rfl rfl (decide_eq_false hc) rfl ?_
          refine TL.pickF hF rfl (decide_eq_false hc) rfl rfl ?_
          refine TL.nil ?_
          refine TQ.then_n ?_
          refine T.cond_f rfl rfl ?_
          refine T.skip ?_
          refine TQ.block_n ?_
          refine TQ.then_n ?_
          refine T.region ?_
          refine TL.move hF rfl rfl ?_
          refine TL.add hF rfl rfl (by omega) (by omega) rfl ?_
          refine TL.assign hF rfl rfl ?_
          refine TL.nil ?_
          obtain ⟨hnx, hnr⟩ : nx = -1 ∧ ∀ b, b < j → ¬ (distS (EU rs) n t b = distS (EU rs) n t r - 1 ∧ EU rs r b = true) := by
            rcases hx with h | ⟨h, _⟩
            · exact h
            · exfalso; have ht30' : nx < 0 := ht30; omega
          refine TQ.round (j + 1, nx) ⟨by simp only; omega, .inl ⟨hnx, fun b hb3 => ?_⟩⟩ (by simp only; omega) ⟨rfl, rfl, rfl, rfl, rfl, rfl, rfl, rfl, trivial⟩ rfl
          by_cases hbj : b = j
          · subst hbj; simp_all
          · exact hnr b (by simp only at hb3; omega)
      · refine T.exit ?_
        refine TQ.then_x ?_
        refine TQ.then_x ?_
        refine TQ.block_x ?_
        refine TQ.then_n ?_
        refine T.region ?_
        refine TL.move hF rfl rfl ?_
        refine TL.assign hF rfl rfl ?_
        refine TL.nil ?_
        refine TQ.block_n ?_
        have h2 : nx = (nextS (EU rs) n (distS (EU rs) n t) r : Nat) ∧ nextS (EU rs) n (distS (EU rs) n t) r < n ∧ distS (EU rs) n t (nextS (EU rs) n (distS (EU rs) n t) r) = distS (EU rs) n t r - 1 := by
          rcases hx with ⟨h1, _⟩ | h2
          · exfalso; have ht30' : ¬ nx < 0 := ht30; omega
          · exact h2
        obtain ⟨hnx, hnn, hnd⟩ := h2
        subst hnx
        have e1 : (l ++ [r]).length = l.length + 1 := by simp
        exact TQ.round (k', nextS (EU rs) n (distS (EU rs) n t) r, l ++ [r], a', cap', seg') ⟨hnn, by simp only; omega, by simp only [e1]; omega, by rw [hw]; simp [wayS], by simpa using ho'⟩ (by simp only; omega) ⟨rfl, rfl, rfl, rfl, rfl, congrArg (fun z => some (Value.slice a' z cap')) e1.symm, trivial⟩ rfl
    · refine TL.off hF rfl rfl rfl (decide_eq_false g7_27) rfl ?_
      refine TL.off hF rfl rfl rfl (decide_eq_false g7_27) rfl ?_
      refine TL.pickF hF rfl (decide_eq_false g7_27) rfl rfl ?_
      refine TL.nil ?_
      refine TQ.then_n ?_
      refine T.cond_f rfl rfl ?_
      refine T.exit ?_
      refine TQ.then_x ?_
      refine TQ.then_x ?_
      refine TQ.block_x ?_
      refine TQ.then_n ?_
      refine T.region ?_
      refine TL.move hF rfl rfl ?_
      refine TL.assign hF rfl rfl ?_
      refine TL.nil ?_
      refine TQ.block_n ?_
      have h2 : nx = (nextS (EU rs) n (distS (EU rs) n t) r : Nat) ∧ nextS (EU rs) n (distS (EU rs) n t) r < n ∧ distS (EU rs) n t (nextS (EU rs) n (distS (EU rs) n t) r) = distS (EU rs) n t r - 1 := by
        rcases hx with ⟨h1, h3⟩ | h2
        · exfalso
          have g' : ¬ (j : Int) < n := g7_27
          obtain ⟨b, hb4, he, hdb⟩ := hD.dn r hrn' (by omega)
          exact h3 b (by omega) ⟨hdb, he⟩
        · exact h2
      obtain ⟨hnx, hnn, hnd⟩ := h2
      subst hnx
      have e1 : (l ++ [r]).length = l.length + 1 := by simp
      exact TQ.round (k', nextS (EU rs) n (distS (EU rs) n t) r, l ++ [r], a', cap', seg') ⟨hnn, by simp only; omega, by simp only [e1]; omega, by rw [hw]; simp [wayS], by simpa using ho'⟩ (by simp only; omega) ⟨rfl, rfl, rfl, rfl, rfl, congrArg (fun z => some (Value.slice a' z cap')) e1.symm, trivial⟩ rfl
  · refine T.exit ?_
    refine TQ.then_x ?_
    refine TQ.then_x ?_
    refine TQ.block_x ?_
    refine TQ.then_n ?_
    refine T.seq ?_
    refine T.region ?_
    refine TL.move hF rfl rfl ?_
    refine TL.assign hF rfl rfl ?_
    refine TL.nil ?_
    refine TQ.then_n ?_
    refine T.ret ?_
    refine TQ.hsub (seg :: η) (List.Sublist.cons_cons _ (List.sublist_cons_self _ _)) ?_
    refine TQ.rets [8] _ rfl rfl rfl ?_
    have hrt : r = t := by have h : ¬ (r : Int) ≠ t := ht19; omega
    subst hrt
    have hk0 : k = 0 := by rw [hD.z] at hdk; omega
    subst hk0
    have e : l.length = (distS (EU rs) n r r0).toNat := by omega
    have e2 : wayS (EU rs) n (distS (EU rs) n r) (distS (EU rs) n r r0).toNat r0 = l := by rw [hw]; simp [wayS]
    rw [e2, ← e]
    exact ⟨a, cap, seg, rfl, rfl, ho⟩
/-- What 'Reason' of the document hands over. -/
def reasonS (rels : Int) (rs : List RuleD) : List Nat × Int :=
  if check rels rs ≠ 0 then ([], check rels rs)
  else if (bestS (EU rs) (ED rs) rels.toNat rels.toNat).length = 0 then ([], 4) else (bestS (EU rs) (ED rs) rels.toNat rels.toNat, 0)
theorem lessN_fn {a b : Option Addr} {xs ys : List Nat} {ca cb : Nat} (hx : Row S w0 η a (nats xs)) (hy : Row S w0 η b (nats ys)) (hl : xs.length < 2 ^ 63) :
    Rt Try.prog 42 [.slice a xs.length ca, .slice b ys.length cb].toArray S w0 η (fun v η' => v = .bool (less (casts xs) (casts ys)) ∧ η' = η) := by
  have h := less_fn (a := a) (b := b) (xs := casts xs) (ys := casts ys) (ca := ca) (cb := cb) (by unfold casts; rw [← nats_ints]; exact hx) (by unfold casts; rw [← nats_ints]; exact hy) (by simpa [casts] using hl)
  simp only [casts, List.length_map] at h
  exact h

set_option maxHeartbeats 2000000 in
theorem Reason_fn {p : Option Addr} {rs : List RuleD} {c : Nat} (rels : Int) (hr : Rules S w0 [] p rs) (hl : rs.length < 2 ^ 63) :
    Rt Try.prog 13 [.int .i64 rels, .slice p rs.length c].toArray S w0 η (fun v η' => ∃ a cap segs, v = .tuple #[.slice a (reasonS rels rs).1.length cap, .int .i64 (reasonS rels rs).2] ∧ η' = segs ++ η ∧ Row S w0 segs a (nats (reasonS rels rs).1)) := by
  have hF := open_wide
  refine Rt.of (fn := Try.f13) Try.func13 rfl rfl ?_
  refine T.seq ?_
  refine T.region ?_
  refine TL.assign hF rfl rfl ?_
  refine TL.assign hF rfl rfl ?_
  refine TL.nil ?_
  refine TQ.then_n ?_
  refine T.seq ?_
  refine T.seq ?_
  refine T.region ?_
  refine TL.move hF rfl rfl ?_
  refine TL.move hF rfl rfl ?_
  refine TL.callV hF (Check_fn rels hr.ro hl) rfl rfl ?_
  refine TL.assign hF rfl rfl ?_
  refine TL.nil ?_
  refine TQ.then_n ?_
  refine T.seq ?_
  refine T.region ?_
  refine TL.move hF rfl rfl ?_
  refine TL.bin hF rfl rfl rfl rfl ?_
  refine TL.nil ?_
  refine TQ.then_n ?_
  first | refine T.cond_d rfl (fun ht15 => ?_) (fun ht15 => ?_) | refine T.cond _ rfl (fun ht15 => ?_) (fun ht15 => ?_)
  · refine T.seq ?_
    refine T.region ?_
    refine TL.move hF rfl rfl ?_
    refine TL.assign hF rfl rfl ?_
    refine TL.assign hF rfl rfl ?_
    refine TL.nil ?_
    refine TQ.then_n ?_
    refine T.ret ?_
    refine TQ.then_r ?_
    refine TQ.rets [4, 5] _ rfl rfl rfl ?_
    have e : reasonS rels rs = ([], check rels rs) := by unfold reasonS; rw [if_pos ht15]
    rw [e]
    exact ⟨none, 0, [], rfl, rfl, ⟨fun h => by simp at h, fun i v h => by simp at h⟩⟩
  · refine T.skip ?_
    refine TQ.then_n ?_
    refine T.seq ?_
    refine T.region ?_
    refine TL.assign hF rfl rfl ?_
    refine TL.nil ?_
    refine TQ.then_n ?_
    refine T.seq ?_
    refine T.seq ?_
    refine T.region ?_
    refine TL.assign hF rfl rfl ?_
    refine TL.nil ?_
    refine TQ.then_n ?_
    refine T.block ?_
    obtain ⟨hk1, hk2, hk3, hk4⟩ := check_ok (Classical.not_not.1 ht15)
    obtain ⟨n, rfl⟩ : ∃ n : Nat, rels = (n : Int) := ⟨rels.toNat, by omega⟩
    have hb := errs_body hk4
    have hblen : ∀ k, k ≤ n → (bestS (EU rs) (ED rs) n k).length ≤ n ∧ ∀ j, j ≤ n → (rowS (EU rs) (ED rs) n k (bestS (EU rs) (ED rs) n k) j).length ≤ n ∨ k = n := by
      intro k
      induction k with
      | zero => intro _; exact ⟨by simp [bestS], fun j hj => by
          by_cases h0 : 0 = n
          · exact .inr h0
          · left
            induction j with
            | zero => simp [rowS, bestS]
            | succ j ih => rw [rowS_succ]; exact tryS_len (by omega) (by omega) (ih (by omega))⟩
      | succ k ih =>
        intro hk
        obtain ⟨h1, h2⟩ := ih (by omega)
        have h3 : (bestS (EU rs) (ED rs) n (k + 1)).length ≤ n := by
          rw [bestS_succ]; rcases h2 n (Nat.le_refl n) with h | h
          · exact h
          · omega
        refine ⟨h3, fun j hj => ?_⟩
        by_cases h0 : k + 1 = n
        · exact .inr h0
        · left
          induction j with
          | zero => exact h3
          | succ j ih2 => rw [rowS_succ]; exact tryS_len (by omega) (by omega) (ih2 (by omega))
    refine T.hnil ?_
    refine T.loop (ι := Nat × Option Addr × Nat × Seg) (fun i => i.1 ≤ n ∧ OSl 3 1 (.slice i.2.1 (bestS (EU rs) (ED rs) n i.1).length i.2.2.1) (bestS (EU rs) (ED rs) n i.1).length (nats (bestS (EU rs) (ED rs) n i.1)) i.2.2.2) (fun i => [(0, .int .i64 (n : Int)), (1, .slice p rs.length c), (7, .slice i.2.1 (bestS (EU rs) (ED rs) n i.1).length i.2.2.1), (8, .int .i64 (i.1 : Int))]) (fun i => i.2.2.2 :: η) (fun i => n - i.1) (0, none, 0, []) ⟨Nat.zero_le _, OSl.nil 3 1⟩ ⟨rfl, rfl, rfl, rfl, trivial⟩ rfl ?_
    rintro ⟨k, oa, oc, og⟩ ⟨hk, ho⟩
    simp only at hk ho
    refine T.seq ?_
    refine T.seq ?_
    refine T.region ?_
    refine TL.move hF rfl rfl ?_
    refine TL.move hF rfl rfl ?_
    refine TL.bin hF rfl rfl rfl rfl ?_
    refine TL.nil ?_
    refine TQ.then_n ?_
    first | refine T.cond_d rfl (fun ht19 => ?_) (fun ht19 => ?_) | refine T.cond _ rfl (fun ht19 => ?_) (fun ht19 => ?_)
    · refine T.skip ?_
      refine TQ.then_n ?_
      refine T.seq ?_
      refine T.block ?_
      refine T.seq ?_
      refine T.region ?_
      refine TL.assign hF rfl rfl ?_
      refine TL.nil ?_
      refine TQ.then_n ?_
      refine T.block ?_
      refine T.loop (ι := Nat × Option Addr × Nat × Seg) (fun i => i.1 ≤ n ∧ OSl 3 1 (.slice i.2.1 (rowS (EU rs) (ED rs) n k (bestS (EU rs) (ED rs) n k) i.1).length i.2.2.1) (rowS (EU rs) (ED rs) n k (bestS (EU rs) (ED rs) n k) i.1).length (nats (rowS (EU rs) (ED rs) n k (bestS (EU rs) (ED rs) n k) i.1)) i.2.2.2) (fun i => [(0, .int .i64 (n : Int)), (1, .slice p rs.length c), (7, .slice i.2.1 (rowS (EU rs) (ED rs) n k (bestS (EU rs) (ED rs) n k) i.1).length i.2.2.1), (8, .int .i64 (k : Int)), (9, .int .i64 (i.1 : Int))]) (fun i => i.2.2.2 :: η) (fun i => n - i.1) (0, oa, oc, og) ⟨Nat.zero_le _, ho⟩ ⟨rfl, rfl, rfl, rfl, rfl, trivial⟩ rfl ?_
      rintro ⟨j, oa, oc, og⟩ ⟨hj, ho⟩
      simp only at hj ho
      have hkn : k < n := by have h : (k : Int) < n := ht19; omega
      have hlen : (rowS (EU rs) (ED rs) n k (bestS (EU rs) (ED rs) n k) j).length ≤ n := by rcases (hblen k (by omega)).2 j hj with h | h; exact h; omega
      refine T.seq ?_
      refine T.seq ?_
      refine T.region ?_
      refine TL.move hF rfl rfl ?_
      refine TL.move hF rfl rfl ?_
      refine TL.bin hF rfl rfl rfl rfl ?_
      refine TL.nil ?_
      refine TQ.then_n ?_
      first | refine T.cond_d rfl (fun ht24 => ?_) (fun ht24 => ?_) | refine T.cond _ rfl (fun ht24 => ?_) (fun ht24 => ?_)
      · refine T.skip ?_
        refine TQ.then_n ?_
        refine T.seq ?_
        refine T.block ?_
        refine T.seq ?_
        refine T.seq ?_
        refine T.region ?_
        refine TL.move hF rfl rfl ?_
        refine TL.move hF rfl rfl ?_
        refine TL.move hF rfl rfl ?_
        refine TL.callV hF (Uses_fn k j true hr hl hb) rfl rfl ?_
        refine TL.not hF rfl rfl ?_
        refine TL.move hF rfl rfl ?_
        refine TL.gb (t := 32) rfl (fun g11_32 => ?_) (fun g11_32 => ?_)
        · refine TL.off hF rfl rfl rfl g11_32 rfl ?_
          refine TL.off hF rfl rfl rfl g11_32 rfl ?_
          refine TL.off hF rfl rfl rfl g11_32 rfl ?_
          refine TL.off hF rfl rfl rfl g11_32 rfl ?_
          refine TL.off hF rfl rfl rfl g11_32 rfl ?_
          refine TL.off hF rfl rfl rfl g11_32 rfl ?_
          refine TL.off hF rfl rfl rfl g11_32 rfl ?_
          refine TL.off hF rfl rfl rfl g11_32 rfl ?_
          refine TL.pickT hF rfl g11_32 rfl rfl ?_
          refine TL.nil ?_
          refine TQ.then_n ?_
          refine T.cond_t rfl rfl ?_
          refine T.exit ?_
          refine TQ.then_x ?_
          refine TQ.block_x ?_
          refine TQ.then_n ?_
          refine T.region ?_
          refine TL.move hF rfl rfl ?_
          refine TL.add hF rfl rfl (by omega) (by omega) rfl ?_
          refine TL.assign hF rfl rfl ?_
          refine TL.nil ?_
          have e : (rowS (EU rs) (ED rs) n k (bestS (EU rs) (ED rs) n k) (j + 1)) = (rowS (EU rs) (ED rs) n k (bestS (EU rs) (ED rs) n k) j) := by
            rw [rowS_succ, tryS, if_neg (by rintro ⟨h1, _⟩; simp [h1] at g11_32)]
          exact TQ.round (j + 1, oa, oc, og) ⟨by simp only; omega, by simp only; rw [e]; exact ho⟩ (by simp only; omega) ⟨rfl, rfl, congrArg (fun l : List Nat => some (Value.slice oa l.length oc)) e.symm, rfl, rfl, trivial⟩ rfl
        · refine TL.on rfl rfl rfl g11_32 ?_
          refine TL.move hF rfl rfl ?_
          refine TL.on rfl rfl rfl g11_32 ?_
          refine TL.move hF rfl rfl ?_
          refine TL.on rfl rfl rfl g11_32 ?_
          refine TL.move hF rfl rfl ?_
          refine TL.on rfl rfl rfl g11_32 ?_
          refine TL.call hF (far_fn hr hl hb (by omega) hkn) rfl rfl ?_
          rintro _ _ ⟨fb, rfl, rfl⟩
          refine TL.on rfl rfl rfl g11_32 ?_
          refine TL.move hF rfl rfl ?_
          refine TL.on rfl rfl rfl g11_32 ?_
          refine TL.indexAddr hF rfl rfl ⟨_, rfl, rfl⟩ (by omega) (by omega) rfl ?_
          refine TL.on rfl rfl rfl g11_32 ?_
          refine TL.load hF rfl (iseg_at (f := distS (EU rs) n k) (n := n) (j := j) (by simp) (by omega)) rfl ?_
          refine TL.on rfl rfl rfl g11_32 ?_
          refine TL.bin hF rfl rfl rfl rfl ?_
          refine TL.pickF hF rfl g11_32 rfl rfl ?_
          refine TL.nil ?_
          refine TQ.then_n ?_
          first | refine T.cond_d rfl (fun ht41 => ?_) (fun ht41 => ?_) | refine T.cond _ rfl (fun ht41 => ?_) (fun ht41 => ?_)
          · refine T.exit ?_
            refine TQ.then_x ?_
            refine TQ.block_x ?_
            refine TQ.then_n ?_
            refine T.region ?_
            refine TL.move hF rfl rfl ?_
            refine TL.add hF rfl rfl (by omega) (by omega) rfl ?_
            refine TL.assign hF rfl rfl ?_
            refine TL.nil ?_
            have e : (rowS (EU rs) (ED rs) n k (bestS (EU rs) (ED rs) n k) (j + 1)) = (rowS (EU rs) (ED rs) n k (bestS (EU rs) (ED rs) n k) j) := by
              rw [rowS_succ, tryS, if_neg (by rintro ⟨_, h2⟩; have h3 : distS (EU rs) n k j < 0 := ht41; omega)]
            refine TQ.pop ?_
            exact TQ.round (j + 1, oa, oc, og) ⟨by simp only; omega, by simp only; rw [e]; exact ho⟩ (by simp only; omega) ⟨rfl, rfl, congrArg (fun l : List Nat => some (Value.slice oa l.length oc)) e.symm, rfl, rfl, trivial⟩ rfl
          · refine T.skip ?_
            refine TQ.then_n ?_
            refine T.seq ?_
            refine T.region ?_
            refine TL.move hF rfl rfl ?_
            have hDl : distS (EU rs) n k j < n := levS_lt (by have h : (j : Int) < n := ht24; omega)
            refine TL.buildSlice hF rfl (cs := #[.int .i64 (k : Int)]) (e := 3) (fun w => by kernel_rfl) rfl (fun b43 => ?_)
            refine TL.move hF rfl rfl ?_
            refine TL.move hF rfl rfl ?_
            refine TL.move hF rfl rfl ?_
            refine TL.move hF rfl rfl ?_
            refine TL.call hF (way_fn (r0 := j) hr hl hb (by omega) hkn (by omega) (by omega)) rfl rfl ?_
            rintro _ _ ⟨wa, wc, wg, rfl, rfl, hwo⟩
            refine TL.append hF 1 (k := 1) (xs := [.int .i64 (k : Int)]) rfl rfl rfl ⟨rfl, .inr ⟨b43, 1, _, rfl, rfl, Nat.le_refl _, rfl, rfl⟩⟩ (hwo.row (by simp)).src rfl (by show _ = _ * 1; simp [wayS_len]) (nats1 _) (by omega) (by omega) rfl (fun a' cap' seg' ho' => ?_)
            have e1 : (candS (EU rs) n k j).length = 1 + (distS (EU rs) n k j).toNat := by simp [candS, wayS_len]; omega
            have ho2 : OSl 3 1 (.slice a' (candS (EU rs) n k j).length cap') (candS (EU rs) n k j).length (nats (candS (EU rs) n k j)) seg' := by rw [e1]; exact ho'
            refine TL.assign hF rfl rfl ?_
            refine TL.nil ?_
            refine TQ.then_n ?_
            refine T.seq ?_
            refine T.region ?_
            refine TL.move hF rfl rfl ?_
            refine TL.len hF rfl rfl ?_
            refine TL.bin hF rfl rfl rfl rfl ?_
            refine TL.move hF rfl rfl ?_
            refine TL.gd (t := 53) rfl (fun g13_53 => ?_) (fun g13_53 => ?_)
            · refine TL.off hF rfl rfl rfl (decide_eq_true g13_53) rfl ?_
              refine TL.off hF rfl rfl rfl (decide_eq_true g13_53) rfl ?_
              refine TL.off hF rfl rfl rfl (decide_eq_true g13_53) rfl ?_
              refine TL.pickT hF rfl (decide_eq_true g13_53) rfl rfl ?_
              refine TL.nil ?_
              refine TQ.then_n ?_
              refine T.cond_t rfl rfl ?_
              refine T.region ?_
              refine TL.move hF rfl rfl ?_
              refine TL.assign hF rfl rfl ?_
              refine TL.nil ?_
              refine TQ.block_n ?_
              refine TQ.then_n ?_
              refine T.region ?_
              refine TL.move hF rfl rfl ?_
              refine TL.add hF rfl rfl (by omega) (by omega) rfl ?_
              refine TL.assign hF rfl rfl ?_
              refine TL.nil ?_
              have e : (rowS (EU rs) (ED rs) n k (bestS (EU rs) (ED rs) n k) (j + 1)) = candS (EU rs) n k j := by
                rw [rowS_succ, tryS, if_pos ⟨by simpa using g11_32, by have h3 : ¬ distS (EU rs) n k j < 0 := ht41; omega⟩, betterS, if_pos (by first | exact .inl (by have h := g13_53; simp only at h; omega) | exact .inr ht57)]
              refine TQ.hsub (seg' :: η) (List.Sublist.cons _ (List.Sublist.cons_cons _ (List.Sublist.cons _ (List.sublist_cons_self _ _)))) ?_
              exact TQ.round (j + 1, a', cap', seg') ⟨by simp only; omega, by simp only; rw [e]; exact ho2⟩ (by simp only; omega) ⟨rfl, rfl, congrArg (fun z => some (Value.slice a' z cap')) (by rw [e, e1]), rfl, rfl, trivial⟩ rfl
            · refine TL.on rfl rfl rfl (decide_eq_false g13_53) ?_
              refine TL.move hF rfl rfl ?_
              refine TL.on rfl rfl rfl (decide_eq_false g13_53) ?_
              refine TL.move hF rfl rfl ?_
              refine TL.on rfl rfl rfl (decide_eq_false g13_53) ?_
              refine TL.callV hF ((by rw [← e1]; exact lessN_fn (ho2.row (by simp)) (ho.row (by simp)) (by omega))) rfl rfl ?_
              refine TL.pickF hF rfl (decide_eq_false g13_53) rfl rfl ?_
              refine TL.nil ?_
              refine TQ.then_n ?_
              refine T.cond _ rfl (fun ht57 => ?_) (fun ht57 => ?_)
              · refine T.region ?_
                refine TL.move hF rfl rfl ?_
                refine TL.assign hF rfl rfl ?_
                refine TL.nil ?_
                refine TQ.block_n ?_
                refine TQ.then_n ?_
                refine T.region ?_
                refine TL.move hF rfl rfl ?_
                refine TL.add hF rfl rfl (by omega) (by omega) rfl ?_
                refine TL.assign hF rfl rfl ?_
                refine TL.nil ?_
                have e : (rowS (EU rs) (ED rs) n k (bestS (EU rs) (ED rs) n k) (j + 1)) = candS (EU rs) n k j := by
                  rw [rowS_succ, tryS, if_pos ⟨by simpa using g11_32, by have h3 : ¬ distS (EU rs) n k j < 0 := ht41; omega⟩, betterS, if_pos (by first | exact .inl (by have h := g13_53; simp only at h; omega) | exact .inr ht57)]
                refine TQ.hsub (seg' :: η) (List.Sublist.cons _ (List.Sublist.cons_cons _ (List.Sublist.cons _ (List.sublist_cons_self _ _)))) ?_
                exact TQ.round (j + 1, a', cap', seg') ⟨by simp only; omega, by simp only; rw [e]; exact ho2⟩ (by simp only; omega) ⟨rfl, rfl, congrArg (fun z => some (Value.slice a' z cap')) (by rw [e, e1]), rfl, rfl, trivial⟩ rfl
              · refine T.skip ?_
                refine TQ.block_n ?_
                refine TQ.then_n ?_
                refine T.region ?_
                refine TL.move hF rfl rfl ?_
                refine TL.add hF rfl rfl (by omega) (by omega) rfl ?_
                refine TL.assign hF rfl rfl ?_
                refine TL.nil ?_
                have e : (rowS (EU rs) (ED rs) n k (bestS (EU rs) (ED rs) n k) (j + 1)) = (rowS (EU rs) (ED rs) n k (bestS (EU rs) (ED rs) n k) j) := by
                  rw [rowS_succ, tryS, if_pos ⟨by simpa using g11_32, by have h3 : ¬ distS (EU rs) n k j < 0 := ht41; omega⟩, betterS, if_neg (by rintro (h | h); (have h' := g13_53; simp only at h'; omega); (rw [ht57] at h; cases h))]
                refine TQ.hsub (og :: η) (List.Sublist.cons _ (List.Sublist.cons _ (List.sublist_cons_self _ _))) ?_
                exact TQ.round (j + 1, oa, oc, og) ⟨by simp only; omega, by simp only; rw [e]; exact ho⟩ (by simp only; omega) ⟨rfl, rfl, congrArg (fun l : List Nat => some (Value.slice oa l.length oc)) e.symm, rfl, rfl, trivial⟩ rfl
      · refine T.exit ?_
        refine TQ.then_x ?_
        refine TQ.then_x ?_
        refine TQ.block_x ?_
        refine TQ.block_n ?_
        refine TQ.then_n ?_
        refine T.region ?_
        refine TL.move hF rfl rfl ?_
        refine TL.add hF rfl rfl (by omega) (by omega) rfl ?_
        refine TL.assign hF rfl rfl ?_
        refine TL.nil ?_
        have hjn : j = n := by have h : ¬ (j : Int) < n := ht24; omega
        subst hjn
        exact TQ.round (k + 1, oa, oc, og) ⟨by simp only; omega, by simp only; rw [bestS_succ]; exact ho⟩ (by simp only; omega) ⟨rfl, rfl, congrArg (fun l : List Nat => some (Value.slice oa l.length oc)) (bestS_succ ..).symm, rfl, trivial⟩ rfl
    · refine T.exit ?_
      refine TQ.then_x ?_
      refine TQ.then_x ?_
      refine TQ.block_x ?_
      refine TQ.then_n ?_
      refine T.seq ?_
      refine T.seq ?_
      refine T.region ?_
      refine TL.move hF rfl rfl ?_
      refine TL.len hF rfl rfl ?_
      refine TL.bin hF rfl rfl rfl rfl ?_
      refine TL.nil ?_
      refine TQ.then_n ?_
      first | refine T.cond_d rfl (fun ht61 => ?_) (fun ht61 => ?_) | refine T.cond _ rfl (fun ht61 => ?_) (fun ht61 => ?_)
      · refine T.seq ?_
        refine T.region ?_
        refine TL.assign hF rfl rfl ?_
        refine TL.assign hF rfl rfl ?_
        refine TL.nil ?_
        refine TQ.then_n ?_
        refine T.ret ?_
        refine TQ.then_r ?_
        refine TQ.hsub η (List.sublist_cons_self _ _) ?_
        refine TQ.rets [4, 5] _ rfl rfl rfl ?_
        have hkn : k = n := by have h : ¬ (k : Int) < n := ht19; omega
        subst hkn
        have e : reasonS k rs = ([], 4) := by unfold reasonS; rw [if_neg (by simpa using ht15), if_pos (by rw [Int.toNat_natCast]; have h := ht61; simp only at h; omega)]
        rw [e]
        exact ⟨none, 0, [], rfl, rfl, ⟨fun h => by simp at h, fun i v h => by simp at h⟩⟩
      · refine T.skip ?_
        refine TQ.then_n ?_
        refine T.seq ?_
        refine T.region ?_
        refine TL.move hF rfl rfl ?_
        refine TL.assign hF rfl rfl ?_
        refine TL.assign hF rfl rfl ?_
        refine TL.nil ?_
        refine TQ.then_n ?_
        refine T.ret ?_
        refine TQ.rets [4, 5] _ rfl rfl rfl ?_
        have hkn : k = n := by have h : ¬ (k : Int) < n := ht19; omega
        subst hkn
        have e : reasonS k rs = (bestS (EU rs) (ED rs) k k, 0) := by unfold reasonS; rw [if_neg (by simpa using ht15), if_neg (by rw [Int.toNat_natCast]; have h := ht61; simp only at h; omega), Int.toNat_natCast]
        rw [e]
        exact ⟨oa, oc, [og], rfl, rfl, ho.row (by simp)⟩
end Go.Proofs.Ytdehpaikapbckaa
/- Levels, and what changes reach: plain Lean. -/
namespace Go.Proofs.Ytdehpaikapbckaa
open Go.Sl
def needS (E D : Nat → Nat → Bool) (own : List Nat) (L : Nat → Int) (a : Nat) (m : Int) (b : Nat) : Int :=
  let m1 := if own.contains b = false ∧ E a b = true then max m (L b) else m
  if D a b = true then max m1 (L b + 1) else m1
def needA (E D : Nat → Nat → Bool) (own : List Nat) (L : Nat → Int) (a : Nat) (m : Int) (k : Nat) : Int := (List.range k).foldl (needS E D own L a) m
def needB (E D : Nat → Nat → Bool) (n : Nat) (own : List Nat) (L : Nat → Int) (xs : List Nat) : Int := xs.foldl (fun m a => needA E D own L a m n) 0
def setL (own : List Nat) (v : Int) (L : Nat → Int) (x : Nat) : Int := if own.contains x then v else L x
def levelsF (E D : Nat → Nat → Bool) (n : Nat) (ls : List (List Nat)) : Nat → Int := ls.foldl (fun L own => setL own (needB E D n own L own) L) fun _ => 0
theorem needA_succ (E D : Nat → Nat → Bool) (own : List Nat) (L : Nat → Int) (a : Nat) (m : Int) (k : Nat) : needA E D own L a m (k + 1) = needS E D own L a (needA E D own L a m k) k := by
  unfold needA; rw [List.range_succ, List.foldl_append]; rfl
theorem needB_snoc (E D : Nat → Nat → Bool) (n : Nat) (own : List Nat) (L : Nat → Int) (xs : List Nat) (a : Nat) : needB E D n own L (xs ++ [a]) = needA E D own L a (needB E D n own L xs) n := by
  unfold needB; rw [List.foldl_append]; rfl
theorem levelsF_snoc (E D : Nat → Nat → Bool) (n : Nat) (ls : List (List Nat)) (own : List Nat) : levelsF E D n (ls ++ [own]) = setL own (needB E D n own (levelsF E D n ls) own) (levelsF E D n ls) := by
  unfold levelsF; rw [List.foldl_append]; rfl
theorem setL_snoc (own : List Nat) (x : Nat) (v : Int) (L : Nat → Int) (i : Nat) : setL (own ++ [x]) v L i = if i = x then v else setL own v L i := by
  unfold setL
  by_cases h : i = x
  · subst h; simp
  · simp [h]
theorem needS_le {E D : Nat → Nat → Bool} {own : List Nat} {L : Nat → Int} {a b : Nat} {m B : Int} (hm : 0 ≤ m ∧ m ≤ B + 1) (hL : 0 ≤ L b ∧ L b ≤ B) : 0 ≤ needS E D own L a m b ∧ needS E D own L a m b ≤ B + 1 := by
  unfold needS; simp only; split <;> split <;> omega
theorem needA_le {E D : Nat → Nat → Bool} {own : List Nat} {L : Nat → Int} {a : Nat} {m B : Int} (hm : 0 ≤ m ∧ m ≤ B + 1) : ∀ k, (∀ b, b < k → 0 ≤ L b ∧ L b ≤ B) → 0 ≤ needA E D own L a m k ∧ needA E D own L a m k ≤ B + 1 := by
  intro k
  induction k with
  | zero => intro _; exact hm
  | succ k ih => intro hL; rw [needA_succ]; exact needS_le (ih fun b hb => hL b (by omega)) (hL k (by omega))
theorem needB_le {E D : Nat → Nat → Bool} {n : Nat} {own : List Nat} {L : Nat → Int} {B : Int} (_hB : 0 ≤ B) (hL : ∀ b, b < n → 0 ≤ L b ∧ L b ≤ B) : ∀ (xs : List Nat) (m : Int), 0 ≤ m ∧ m ≤ B + 1 → 0 ≤ xs.foldl (fun m a => needA E D own L a m n) m ∧ xs.foldl (fun m a => needA E D own L a m n) m ≤ B + 1 := by
  intro xs
  induction xs with
  | nil => intro m h; exact h
  | cons a xs ih => intro m h; exact ih _ (needA_le h n hL)
theorem levelsF_le {E D : Nat → Nat → Bool} {n : Nat} (ls : List (List Nat)) : ∀ b, 0 ≤ levelsF E D n ls b ∧ levelsF E D n ls b ≤ ls.length := by
  have key : ∀ (k : Nat) (ls : List (List Nat)), ls.length = k → ∀ b, 0 ≤ levelsF E D n ls b ∧ levelsF E D n ls b ≤ k := by
    intro k
    induction k with
    | zero => intro ls h b; have : ls = [] := List.eq_nil_of_length_eq_zero h
              subst this; simp [levelsF]
    | succ k ih =>
      intro ls h b
      obtain ⟨pre, own, rfl⟩ : ∃ pre own, ls = pre ++ [own] := ⟨ls.dropLast, ls.getLast (by intro e; simp [e] at h), (List.dropLast_concat_getLast _).symm⟩
      have hp : pre.length = k := by simpa using h
      have h1 := ih pre hp
      rw [levelsF_snoc]
      unfold setL
      split
      · have := needB_le (E := E) (D := D) (n := n) (own := own) (B := (k : Int)) (by omega) (fun b _ => h1 b) own 0 (by omega)
        unfold needB; omega
      · have := h1 b; omega
  exact key ls.length ls rfl
theorem orderS_len {n : Nat} {M : Nat → Nat → Bool} : ∀ (f : Nat) (done : List Nat), (orderS n M f done).length ≤ f := by
  intro f
  induction f with
  | zero => intro done; simp [orderS]
  | succ f ih => intro done; unfold orderS; split; simp; rename_i a _; have := ih (done ++ blockS n M a); simp; omega
theorem orderS_mem {n : Nat} {M : Nat → Nat → Bool} : ∀ (f : Nat) (done : List Nat), ∀ l ∈ orderS n M f done, ∃ a, l = blockS n M a := by
  intro f
  induction f with
  | zero => intro done l h; simp [orderS] at h
  | succ f ih =>
    intro done l h
    unfold orderS at h
    split at h
    · simp at h
    · rename_i a _
      rcases List.mem_cons.1 h with rfl | h
      · exact ⟨a, rfl⟩
      · exact ih _ l h
/-- What 'Levels' of the document hands over. -/
def levelsS (rels : Int) (rs : List RuleD) : List Int × Int :=
  if (blocksS rels rs).2 ≠ 0 then ([], (blocksS rels rs).2)
  else ((List.range rels.toNat).map (levelsF (EU rs) (ED rs) rels.toNat (blocksS rels rs).1), 0)
def inAll (rels : Int) : List Int → Bool
  | [] => true
  | x :: r => inR x rels && inAll rels r
/-- What 'Reach' of the document hands over. -/
def hits (M : Nat → Nat → Bool) (from' : List Nat) (a : Nat) : Bool := from'.contains a || from'.any fun s => M a s
def reachS (rels : Int) (rs : List RuleD) (from' : List Int) : List Nat × Int :=
  if check rels rs ≠ 0 then ([], check rels rs)
  else if inAll rels from' = false then ([], 2)
  else ((List.range rels.toNat).filter (hits (fwM (EU rs) rels.toNat) (from'.map Int.toNat)), 0)
end Go.Proofs.Ytdehpaikapbckaa
/- The reference's levels, and what changes reach. -/
namespace Go.Proofs.Ytdehpaikapbckaa
open Go.Sl
variable {S : Nat → Prop} {w0 : World} {η : Heap}
theorem OutL.item {a : Option Addr} {ls : List (List Nat)} (h : OutL S w0 η a ls) : ∃ f : Nat → Option Addr × Nat, (∀ i (hi : i < ls.length), At S w0 η (sAt a (i * 1)) (.slice (f i).1 ls[i].length (f i).2) ∧ Row S w0 η (f i).1 (nats ls[i])) ∧ (∀ i, i < ls.length → ∃ ad, a = some ad ∧ ad.spot = none) := by
  obtain ⟨f, h1, h2⟩ := Lists.item h
  refine ⟨f, fun i hi => ?_, fun i hi => h2 i (by simpa using hi)⟩
  have := h1 i (by simpa using hi)
  simp only [List.getElem_map, List.length_map] at this
  rw [nats_ints]; exact this
theorem _root_.Go.Sl.Row.nat {a : Option Addr} {l : List Nat} (h : Row S w0 η a (nats l)) {i : Nat} (hi : i < l.length) : At S w0 η (sAt a (i * 1)) (.int .i64 (l[i] : Nat)) := by rw [Nat.mul_one]; exact h.cell i _ (by simp [hi])
theorem _root_.Go.Sl.Row.nad {a : Option Addr} {l : List Nat} (h : Row S w0 η a (nats l)) {i : Nat} (hi : i < l.length) : ∃ ad, a = some ad ∧ ad.spot = none := h.adi (i := i) (by simpa using hi)

set_option maxHeartbeats 2000000 in
theorem Levels_fn {p : Option Addr} {rs : List RuleD} {c : Nat} (rels : Int) (hr : Rules S w0 [] p rs) (hl : rs.length < 2 ^ 63) :
    Rt Try.prog 15 [.int .i64 rels, .slice p rs.length c].toArray S w0 η (fun v η' => ∃ a cap segs, v = .tuple #[.slice a (levelsS rels rs).1.length cap, .int .i64 (levelsS rels rs).2] ∧ η' = segs ++ η ∧ Row S w0 segs a (ints (levelsS rels rs).1)) := by
  have hF := open_wide
  refine Rt.of (fn := Try.f15) Try.func15 rfl rfl ?_
  refine T.seq ?_
  refine T.region ?_
  refine TL.assign hF rfl rfl ?_
  refine TL.assign hF rfl rfl ?_
  refine TL.nil ?_
  refine TQ.then_n ?_
  refine T.seq ?_
  refine T.region ?_
  refine TL.move hF rfl rfl ?_
  refine TL.move hF rfl rfl ?_
  refine TL.call hF (Blocks_fn rels hr hl) rfl rfl ?_
  rintro _ _ ⟨ba, bc, osg, rfl, rfl, hO⟩
  refine TL.move hF rfl rfl ?_
  refine TL.extract hF rfl rfl rfl ?_
  refine TL.extract hF rfl rfl rfl ?_
  refine TL.assign hF rfl rfl ?_
  refine TL.assign hF rfl rfl ?_
  refine TL.nil ?_
  refine TQ.then_n ?_
  refine T.seq ?_
  refine T.seq ?_
  refine T.region ?_
  refine TL.move hF rfl rfl ?_
  refine TL.bin hF rfl rfl rfl rfl ?_
  refine TL.nil ?_
  refine TQ.then_n ?_
  first | refine T.cond_d rfl (fun ht22 => ?_) (fun ht22 => ?_) | refine T.cond _ rfl (fun ht22 => ?_) (fun ht22 => ?_)
  · refine T.seq ?_
    refine T.region ?_
    refine TL.move hF rfl rfl ?_
    refine TL.assign hF rfl rfl ?_
    refine TL.assign hF rfl rfl ?_
    refine TL.nil ?_
    refine TQ.then_n ?_
    refine T.ret ?_
    refine TQ.then_r ?_
    refine TQ.hsub η (List.sublist_append_right _ _) ?_
    refine TQ.rets [4, 5] _ rfl rfl rfl ?_
    have e : levelsS rels rs = ([], (blocksS rels rs).2) := by unfold levelsS; rw [if_pos ht22]
    rw [e]
    exact ⟨none, 0, [], rfl, rfl, ⟨fun h => by simp at h, fun i v h => by simp at h⟩⟩
  · refine T.skip ?_
    refine TQ.then_n ?_
    refine T.seq ?_
    refine T.region ?_
    refine TL.move hF rfl rfl ?_
    have hck : check rels rs = 0 := by
      apply Classical.byContradiction; intro h
      apply ht22; simp [blocksS, h]
    obtain ⟨hk1, hk2, hk3, hk4⟩ := check_ok hck
    obtain ⟨n, rfl⟩ : ∃ n : Nat, rels = (n : Int) := ⟨rels.toNat, by omega⟩
    have hb := errs_body hk4
    have hbl : ∀ l ∈ (blocksS n rs).1, ∀ x ∈ l, x < n := by
      intro l hl x hx
      unfold blocksS at hl
      rw [if_neg (by simpa using hck)] at hl
      split at hl
      · obtain ⟨a, rfl⟩ := orderS_mem _ _ l hl
        simpa using (mem_blockS.1 hx).1
      · simp at hl
    have hbll : (blocksS n rs).1.length ≤ n ∧ ∀ l ∈ (blocksS n rs).1, l.length ≤ n := by
      unfold blocksS
      rw [if_neg (by simpa using hck)]
      split
      · refine ⟨by simpa using orderS_len (n := n) (M := fwM (EU rs) n) n [], fun l hl => ?_⟩
        obtain ⟨a, rfl⟩ := orderS_mem _ _ l hl
        simpa using blockS_len n (fwM (EU rs) n) a
      · simp
    have hlev : levelsS n rs = ((List.range n).map (levelsF (EU rs) (ED rs) n (blocksS n rs).1), 0) := by
      unfold levelsS; rw [if_neg (by simpa using ht22), Int.toNat_natCast]
    rw [hlev]
    generalize (blocksS n rs).1 = bls at hbl hbll hO ⊢
    obtain ⟨f, hf1, hf2⟩ := hO.item
    refine TL.makeSlice hF (k := n) rfl rfl rfl (by omega) (by omega) rfl (fun b25 => ?_)
    refine TL.assign hF rfl rfl ?_
    refine TL.nil ?_
    refine TQ.then_n ?_
    refine T.seq ?_
    refine T.seq ?_
    refine T.region ?_
    refine TL.assign hF rfl rfl ?_
    refine TL.nil ?_
    refine TQ.then_n ?_
    refine T.block ?_
    refine T.loop (ι := Nat) (fun i => i ≤ bls.length) (fun i => [(0, .int .i64 (n : Int)), (1, .slice p rs.length c), (6, .slice ba bls.length bc), (8, .slice (some ⟨b25, 0, none⟩) n n), (9, .int .i64 (i : Int))]) (fun i => iseg b25 n (levelsF (EU rs) (ED rs) n (bls.take i)) :: (osg ++ η)) (fun i => bls.length - i) 0 (Nat.zero_le _) ⟨rfl, rfl, rfl, rfl, rfl, trivial⟩ (by rw [intC_zero]; rfl) ?_
    rintro i hi
    have hLb := levelsF_le (E := EU rs) (D := ED rs) (n := n) (bls.take i)
    have htl : (bls.take i).length = i := by simp [hi]
    rw [htl] at hLb
    refine T.seq ?_
    refine T.seq ?_
    refine T.region ?_
    refine TL.move hF rfl rfl ?_
    refine TL.move hF rfl rfl ?_
    refine TL.len hF rfl rfl ?_
    refine TL.bin hF rfl rfl rfl rfl ?_
    refine TL.nil ?_
    refine TQ.then_n ?_
    first | refine T.cond_d rfl (fun ht29 => ?_) (fun ht29 => ?_) | refine T.cond _ rfl (fun ht29 => ?_) (fun ht29 => ?_)
    · refine T.skip ?_
      refine TQ.then_n ?_
      refine T.seq ?_
      refine T.block ?_
      refine T.seq ?_
      refine T.region ?_
      refine TL.assign hF rfl rfl ?_
      refine TL.nil ?_
      refine TQ.then_n ?_
      refine T.seq ?_
      refine T.seq ?_
      refine T.region ?_
      refine TL.assign hF rfl rfl ?_
      refine TL.nil ?_
      refine TQ.then_n ?_
      refine T.block ?_
      have hil : i < bls.length := by omega
      have hfi := hf1 i hil
      have hup : ∀ L, ∀ x ∈ osg, x ∈ iseg b25 n (L) :: (osg ++ η) := fun L x hx => List.mem_cons_of_mem _ (List.mem_append_left _ hx)
      have hol : (bls[i]'(by omega)).length ≤ n := hbll.2 _ (List.getElem_mem _)
      have hom : ∀ x ∈ (bls[i]'(by omega)), x < n := hbl _ (List.getElem_mem _)
      have hnb := fun xs => needB_le (E := EU rs) (D := ED rs) (n := n) (own := (bls[i]'(by omega))) (L := levelsF (EU rs) (ED rs) n (bls.take i)) (B := (i : Int)) (by omega) (fun b _ => hLb b) xs 0 (by omega)
      refine T.loop (ι := Nat) (fun k => k ≤ (bls[i]'(by omega)).length) (fun k => [(0, .int .i64 (n : Int)), (1, .slice p rs.length c), (6, .slice ba bls.length bc), (8, .slice (some ⟨b25, 0, none⟩) n n), (9, .int .i64 (i : Int)), (10, .int .i64 (needB (EU rs) (ED rs) n (bls[i]'(by omega)) (levelsF (EU rs) (ED rs) n (bls.take i)) ((bls[i]'(by omega)).take k))), (11, .int .i64 (k : Int))]) (fun k => iseg b25 n (levelsF (EU rs) (ED rs) n (bls.take i)) :: (osg ++ η)) (fun k => (bls[i]'(by omega)).length - k) 0 (Nat.zero_le _) ⟨rfl, rfl, rfl, rfl, rfl, rfl, rfl, trivial⟩ rfl ?_
      rintro k hk
      refine T.seq ?_
      refine T.seq ?_
      refine T.region ?_
      refine TL.move hF rfl rfl ?_
      refine TL.move hF rfl rfl ?_
      refine TL.move hF rfl rfl ?_
      refine TL.indexAddr hF rfl rfl (hf2 i hil) (by omega) (by omega) rfl ?_
      refine TL.load hF rfl (hfi.1.up (hup _)) rfl ?_
      refine TL.len hF rfl rfl ?_
      refine TL.bin hF rfl rfl rfl rfl ?_
      refine TL.nil ?_
      refine TQ.then_n ?_
      first | refine T.cond_d rfl (fun ht38 => ?_) (fun ht38 => ?_) | refine T.cond _ rfl (fun ht38 => ?_) (fun ht38 => ?_)
      · refine T.skip ?_
        refine TQ.then_n ?_
        refine T.seq ?_
        refine T.block ?_
        refine T.seq ?_
        refine T.region ?_
        refine TL.move hF rfl rfl ?_
        refine TL.move hF rfl rfl ?_
        refine TL.indexAddr hF rfl rfl (hf2 i hil) (by omega) (by omega) rfl ?_
        refine TL.load hF rfl (hfi.1.up (hup _)) rfl ?_
        refine TL.move hF rfl rfl ?_
        refine TL.indexAddr hF rfl rfl (hfi.2.nad (i := k) (by omega)) (by omega) (by omega) rfl ?_
        refine TL.load hF rfl ((hfi.2.nat (i := k) (by omega)).up (hup _)) rfl ?_
        refine TL.assign hF rfl rfl ?_
        refine TL.nil ?_
        refine TQ.then_n ?_
        refine T.seq ?_
        refine T.region ?_
        refine TL.assign hF rfl rfl ?_
        refine TL.nil ?_
        refine TQ.then_n ?_
        refine T.block ?_
        have hq : (bls[i]'(by omega))[k] < n := hom _ (List.getElem_mem _)
        have hna := fun j => needA_le (E := EU rs) (D := ED rs) (own := (bls[i]'(by omega))) (L := levelsF (EU rs) (ED rs) n (bls.take i)) (a := (bls[i]'(by omega))[k]) (m := needB (EU rs) (ED rs) n (bls[i]'(by omega)) (levelsF (EU rs) (ED rs) n (bls.take i)) ((bls[i]'(by omega)).take k)) (B := (i : Int)) (hnb _) j (fun b _ => hLb b)
        refine T.loop (ι := Nat) (fun j => j ≤ n) (fun j => [(0, .int .i64 (n : Int)), (1, .slice p rs.length c), (6, .slice ba bls.length bc), (8, .slice (some ⟨b25, 0, none⟩) n n), (9, .int .i64 (i : Int)), (10, .int .i64 (needA (EU rs) (ED rs) (bls[i]'(by omega)) (levelsF (EU rs) (ED rs) n (bls.take i)) ((bls[i]'(by omega))[k]) (needB (EU rs) (ED rs) n (bls[i]'(by omega)) (levelsF (EU rs) (ED rs) n (bls.take i)) ((bls[i]'(by omega)).take k)) j)), (11, .int .i64 (k : Int)), (12, .int .i64 (((bls[i]'(by omega))[k] : Nat) : Int)), (13, .int .i64 (j : Int))]) (fun j => iseg b25 n (levelsF (EU rs) (ED rs) n (bls.take i)) :: (osg ++ η)) (fun j => n - j) 0 (Nat.zero_le _) ⟨rfl, rfl, rfl, rfl, rfl, rfl, rfl, rfl, rfl, trivial⟩ rfl ?_
        rintro j hj
        have hLj := hLb j
        refine T.seq ?_
        refine T.seq ?_
        refine T.region ?_
        refine TL.move hF rfl rfl ?_
        refine TL.move hF rfl rfl ?_
        refine TL.bin hF rfl rfl rfl rfl ?_
        refine TL.nil ?_
        refine TQ.then_n ?_
        first | refine T.cond_d rfl (fun ht50 => ?_) (fun ht50 => ?_) | refine T.cond _ rfl (fun ht50 => ?_) (fun ht50 => ?_)
        · refine T.skip ?_
          refine TQ.then_n ?_
          refine T.seq ?_
          refine T.block ?_
          refine T.seq ?_
          refine T.seq ?_
          refine T.region ?_
          refine TL.move hF rfl rfl ?_
          refine TL.move hF rfl rfl ?_
          refine TL.indexAddr hF rfl rfl (hf2 i hil) (by omega) (by omega) rfl ?_
          refine TL.load hF rfl (hfi.1.up (hup _)) rfl ?_
          refine TL.move hF rfl rfl ?_
          refine TL.callV hF (hasN_fn j (hfi.2.up (hup _)) (by omega)) rfl rfl ?_
          refine TL.not hF rfl rfl ?_
          refine TL.move hF rfl rfl ?_
          refine TL.gb (t := 60) rfl (fun g16_60 => ?_) (fun g16_60 => ?_)
          · refine TL.on rfl rfl rfl g16_60 ?_
            refine TL.move hF rfl rfl ?_
            refine TL.on rfl rfl rfl g16_60 ?_
            refine TL.move hF rfl rfl ?_
            refine TL.on rfl rfl rfl g16_60 ?_
            refine TL.move hF rfl rfl ?_
            refine TL.on rfl rfl rfl g16_60 ?_
            refine TL.callV hF (Uses_fn ((bls[i]'(by omega))[k] : Nat) j false hr hl hb) rfl rfl ?_
            refine TL.pickT hF rfl g16_60 rfl rfl ?_
            refine TL.nil ?_
            refine TQ.then_n ?_
            refine T.cond _ rfl (fun ht65 => ?_) (fun ht65 => ?_)
            · refine T.region ?_
              refine TL.move hF rfl rfl ?_
              refine TL.move hF rfl rfl ?_
              refine TL.move hF rfl rfl ?_
              refine TL.indexAddr hF rfl rfl ⟨_, rfl, rfl⟩ (by omega) (by omega) rfl ?_
              refine TL.load hF rfl (iseg_at (f := levelsF (EU rs) (ED rs) n (bls.take i)) (n := n) (j := j) (by simp) (by omega)) rfl ?_
              refine TL.max2 hF rfl rfl rfl ?_
              refine TL.assign hF rfl rfl ?_
              refine TL.nil ?_
              refine TQ.then_n ?_
              refine T.seq ?_
              refine T.region ?_
              refine TL.move hF rfl rfl ?_
              refine TL.move hF rfl rfl ?_
              refine TL.move hF rfl rfl ?_
              refine TL.callV hF (Uses_fn ((bls[i]'(by omega))[k] : Nat) j true hr hl hb) rfl rfl ?_
              refine TL.nil ?_
              refine TQ.then_n ?_
              refine T.cond _ rfl (fun ht75 => ?_) (fun ht75 => ?_)
              · refine T.region ?_
                refine TL.move hF rfl rfl ?_
                refine TL.move hF rfl rfl ?_
                refine TL.move hF rfl rfl ?_
                refine TL.indexAddr hF rfl rfl ⟨_, rfl, rfl⟩ (by omega) (by omega) rfl ?_
                refine TL.load hF rfl (iseg_at (f := levelsF (EU rs) (ED rs) n (bls.take i)) (n := n) (j := j) (by simp) (by omega)) rfl ?_
                refine TL.add hF rfl rfl (by omega) (by omega) rfl ?_
                refine TL.max2 hF rfl rfl rfl ?_
                refine TL.assign hF rfl rfl ?_
                refine TL.nil ?_
                refine TQ.block_n ?_
                refine TQ.then_n ?_
                refine T.region ?_
                refine TL.move hF rfl rfl ?_
                refine TL.add hF rfl rfl (by omega) (by omega) rfl ?_
                refine TL.assign hF rfl rfl ?_
                refine TL.nil ?_
                refine TQ.round (j + 1) (by omega) (by omega) ⟨rfl, rfl, rfl, rfl, rfl, congrArg (fun z => some (Value.int .i64 z)) (by rw [needA_succ, needS]; simp_all), rfl, rfl, rfl, trivial⟩ rfl
              · refine T.skip ?_
                refine TQ.block_n ?_
                refine TQ.then_n ?_
                refine T.region ?_
                refine TL.move hF rfl rfl ?_
                refine TL.add hF rfl rfl (by omega) (by omega) rfl ?_
                refine TL.assign hF rfl rfl ?_
                refine TL.nil ?_
                refine TQ.round (j + 1) (by omega) (by omega) ⟨rfl, rfl, rfl, rfl, rfl, congrArg (fun z => some (Value.int .i64 z)) (by rw [needA_succ, needS]; simp_all), rfl, rfl, rfl, trivial⟩ rfl
            · refine T.skip ?_
              refine TQ.then_n ?_
              refine T.seq ?_
              refine T.region ?_
              refine TL.move hF rfl rfl ?_
              refine TL.move hF rfl rfl ?_
              refine TL.move hF rfl rfl ?_
              refine TL.callV hF (Uses_fn ((bls[i]'(by omega))[k] : Nat) j true hr hl hb) rfl rfl ?_
              refine TL.nil ?_
              refine TQ.then_n ?_
              refine T.cond _ rfl (fun ht75 => ?_) (fun ht75 => ?_)
              · refine T.region ?_
                refine TL.move hF rfl rfl ?_
                refine TL.move hF rfl rfl ?_
                refine TL.move hF rfl rfl ?_
                refine TL.indexAddr hF rfl rfl ⟨_, rfl, rfl⟩ (by omega) (by omega) rfl ?_
                refine TL.load hF rfl (iseg_at (f := levelsF (EU rs) (ED rs) n (bls.take i)) (n := n) (j := j) (by simp) (by omega)) rfl ?_
                refine TL.add hF rfl rfl (by omega) (by omega) rfl ?_
                refine TL.max2 hF rfl rfl rfl ?_
                refine TL.assign hF rfl rfl ?_
                refine TL.nil ?_
                refine TQ.block_n ?_
                refine TQ.then_n ?_
                refine T.region ?_
                refine TL.move hF rfl rfl ?_
                refine TL.add hF rfl rfl (by omega) (by omega) rfl ?_
                refine TL.assign hF rfl rfl ?_
                refine TL.nil ?_
                refine TQ.round (j + 1) (by omega) (by omega) ⟨rfl, rfl, rfl, rfl, rfl, congrArg (fun z => some (Value.int .i64 z)) (by rw [needA_succ, needS]; simp_all), rfl, rfl, rfl, trivial⟩ rfl
              · refine T.skip ?_
                refine TQ.block_n ?_
                refine TQ.then_n ?_
                refine T.region ?_
                refine TL.move hF rfl rfl ?_
                refine TL.add hF rfl rfl (by omega) (by omega) rfl ?_
                refine TL.assign hF rfl rfl ?_
                refine TL.nil ?_
                refine TQ.round (j + 1) (by omega) (by omega) ⟨rfl, rfl, rfl, rfl, rfl, congrArg (fun z => some (Value.int .i64 z)) (by rw [needA_succ, needS]; simp_all), rfl, rfl, rfl, trivial⟩ rfl
          · refine TL.off hF rfl rfl rfl g16_60 rfl ?_
            refine TL.off hF rfl rfl rfl g16_60 rfl ?_
            refine TL.off hF rfl rfl rfl g16_60 rfl ?_
            refine TL.off hF rfl rfl rfl g16_60 rfl ?_
            refine TL.pickF hF rfl g16_60 rfl rfl ?_
            refine TL.nil ?_
            refine TQ.then_n ?_
            refine T.cond_f rfl rfl ?_
            refine T.skip ?_
            refine TQ.then_n ?_
            refine T.seq ?_
            refine T.region ?_
            refine TL.move hF rfl rfl ?_
            refine TL.move hF rfl rfl ?_
            refine TL.move hF rfl rfl ?_
            refine TL.callV hF (Uses_fn ((bls[i]'(by omega))[k] : Nat) j true hr hl hb) rfl rfl ?_
            refine TL.nil ?_
            refine TQ.then_n ?_
            refine T.cond _ rfl (fun ht75 => ?_) (fun ht75 => ?_)
            · refine T.region ?_
              refine TL.move hF rfl rfl ?_
              refine TL.move hF rfl rfl ?_
              refine TL.move hF rfl rfl ?_
              refine TL.indexAddr hF rfl rfl ⟨_, rfl, rfl⟩ (by omega) (by omega) rfl ?_
              refine TL.load hF rfl (iseg_at (f := levelsF (EU rs) (ED rs) n (bls.take i)) (n := n) (j := j) (by simp) (by omega)) rfl ?_
              refine TL.add hF rfl rfl (by omega) (by omega) rfl ?_
              refine TL.max2 hF rfl rfl rfl ?_
              refine TL.assign hF rfl rfl ?_
              refine TL.nil ?_
              refine TQ.block_n ?_
              refine TQ.then_n ?_
              refine T.region ?_
              refine TL.move hF rfl rfl ?_
              refine TL.add hF rfl rfl (by omega) (by omega) rfl ?_
              refine TL.assign hF rfl rfl ?_
              refine TL.nil ?_
              refine TQ.round (j + 1) (by omega) (by omega) ⟨rfl, rfl, rfl, rfl, rfl, congrArg (fun z => some (Value.int .i64 z)) (by rw [needA_succ, needS]; simp_all), rfl, rfl, rfl, trivial⟩ rfl
            · refine T.skip ?_
              refine TQ.block_n ?_
              refine TQ.then_n ?_
              refine T.region ?_
              refine TL.move hF rfl rfl ?_
              refine TL.add hF rfl rfl (by omega) (by omega) rfl ?_
              refine TL.assign hF rfl rfl ?_
              refine TL.nil ?_
              refine TQ.round (j + 1) (by omega) (by omega) ⟨rfl, rfl, rfl, rfl, rfl, congrArg (fun z => some (Value.int .i64 z)) (by rw [needA_succ, needS]; simp_all), rfl, rfl, rfl, trivial⟩ rfl
        · refine T.exit ?_
          refine TQ.then_x ?_
          refine TQ.then_x ?_
          refine TQ.block_x ?_
          refine TQ.block_n ?_
          refine TQ.then_n ?_
          refine T.region ?_
          refine TL.move hF rfl rfl ?_
          refine TL.add hF rfl rfl (by omega) (by omega) rfl ?_
          refine TL.assign hF rfl rfl ?_
          refine TL.nil ?_
          have hjn : j = n := by omega
          subst hjn
          exact TQ.round (k + 1) (by omega) (by omega) ⟨rfl, rfl, rfl, rfl, rfl, congrArg (fun z => some (Value.int .i64 z)) (by rw [List.take_succ_eq_append_getElem (by omega), needB_snoc]), rfl, trivial⟩ rfl
      · refine T.exit ?_
        refine TQ.then_x ?_
        refine TQ.then_x ?_
        refine TQ.block_x ?_
        refine TQ.then_n ?_
        refine T.seq ?_
        refine T.region ?_
        refine TL.assign hF rfl rfl ?_
        refine TL.nil ?_
        refine TQ.then_n ?_
        refine T.block ?_
        have hkl : k = (bls[i]'(by omega)).length := by omega
        subst hkl
        have htk : (bls[i]'(by omega)).take (bls[i]'(by omega)).length = (bls[i]'(by omega)) := List.take_length
        rw [htk]
        refine T.loop (ι := Nat) (fun k => k ≤ (bls[i]'(by omega)).length) (fun k => [(0, .int .i64 (n : Int)), (1, .slice p rs.length c), (6, .slice ba bls.length bc), (8, .slice (some ⟨b25, 0, none⟩) n n), (9, .int .i64 (i : Int)), (10, .int .i64 (needB (EU rs) (ED rs) n (bls[i]'(by omega)) (levelsF (EU rs) (ED rs) n (bls.take i)) (bls[i]'(by omega)))), (14, .int .i64 (k : Int))]) (fun k => iseg b25 n (setL ((bls[i]'(by omega)).take k) (needB (EU rs) (ED rs) n (bls[i]'(by omega)) (levelsF (EU rs) (ED rs) n (bls.take i)) (bls[i]'(by omega))) (levelsF (EU rs) (ED rs) n (bls.take i))) :: (osg ++ η)) (fun k => (bls[i]'(by omega)).length - k) 0 (Nat.zero_le _) ⟨rfl, rfl, rfl, rfl, rfl, rfl, rfl, trivial⟩ (iseg_congr (fun x _ => by simp [setL])) ?_
        rintro k hk
        refine T.seq ?_
        refine T.seq ?_
        refine T.region ?_
        refine TL.move hF rfl rfl ?_
        refine TL.move hF rfl rfl ?_
        refine TL.move hF rfl rfl ?_
        refine TL.indexAddr hF rfl rfl (hf2 i hil) (by omega) (by omega) rfl ?_
        refine TL.load hF rfl (hfi.1.up (hup _)) rfl ?_
        refine TL.len hF rfl rfl ?_
        refine TL.bin hF rfl rfl rfl rfl ?_
        refine TL.nil ?_
        refine TQ.then_n ?_
        first | refine T.cond_d rfl (fun ht89 => ?_) (fun ht89 => ?_) | refine T.cond _ rfl (fun ht89 => ?_) (fun ht89 => ?_)
        · refine T.skip ?_
          refine TQ.then_n ?_
          refine T.seq ?_
          refine T.block ?_
          refine T.region ?_
          refine TL.move hF rfl rfl ?_
          refine TL.move hF rfl rfl ?_
          refine TL.move hF rfl rfl ?_
          refine TL.indexAddr hF rfl rfl (hf2 i hil) (by omega) (by omega) rfl ?_
          refine TL.load hF rfl (hfi.1.up (hup _)) rfl ?_
          refine TL.move hF rfl rfl ?_
          refine TL.indexAddr hF rfl rfl (hfi.2.nad (i := k) (by omega)) (by omega) (by omega) rfl ?_
          refine TL.load hF rfl ((hfi.2.nat (i := k) (by omega)).up (hup _)) rfl ?_
          refine TL.move hF rfl rfl ?_
          refine TL.indexAddr hF rfl rfl ⟨_, rfl, rfl⟩ (by omega) (by have := hom _ (List.getElem_mem (show k < (bls[i]'(by omega)).length by omega)); omega) rfl ?_
          refine TL.storeI hF 0 rfl rfl rfl rfl (by have := hom _ (List.getElem_mem (show k < (bls[i]'(by omega)).length by omega)); simp [intC_len]; omega) ?_
          refine TL.nil ?_
          refine TQ.block_n ?_
          refine TQ.then_n ?_
          refine T.region ?_
          refine TL.move hF rfl rfl ?_
          refine TL.add hF rfl rfl (by omega) (by omega) rfl ?_
          refine TL.assign hF rfl rfl ?_
          refine TL.nil ?_
          refine TQ.round (k + 1) (by omega) (by omega) ⟨rfl, rfl, rfl, rfl, rfl, rfl, rfl, trivial⟩ (iseg_set (j := (bls[i]'(by omega))[k]) (by simp) (fun x hx => by rw [List.take_succ_eq_append_getElem (by omega), setL_snoc]))
        · refine T.exit ?_
          refine TQ.then_x ?_
          refine TQ.then_x ?_
          refine TQ.block_x ?_
          refine TQ.block_n ?_
          refine TQ.then_n ?_
          refine T.region ?_
          refine TL.move hF rfl rfl ?_
          refine TL.add hF rfl rfl (by omega) (by omega) rfl ?_
          refine TL.assign hF rfl rfl ?_
          refine TL.nil ?_
          have hkl : k = (bls[i]'(by omega)).length := by omega
          subst hkl
          exact TQ.round (i + 1) (by omega) (by omega) ⟨rfl, rfl, rfl, rfl, rfl, trivial⟩ (iseg_congr (fun x _ => by rw [htk, List.take_succ_eq_append_getElem (by omega), levelsF_snoc]))
    · refine T.exit ?_
      refine TQ.then_x ?_
      refine TQ.then_x ?_
      refine TQ.block_x ?_
      refine TQ.then_n ?_
      refine T.seq ?_
      refine T.region ?_
      refine TL.move hF rfl rfl ?_
      refine TL.assign hF rfl rfl ?_
      refine TL.assign hF rfl rfl ?_
      refine TL.nil ?_
      refine TQ.then_n ?_
      refine T.ret ?_
      refine TQ.hsub (iseg b25 n (levelsF (EU rs) (ED rs) n (bls.take i)) :: η) (List.Sublist.cons_cons _ (List.sublist_append_right _ _)) ?_
      refine TQ.rets [4, 5] _ rfl rfl rfl ?_
      have hin : i = bls.length := by omega
      subst hin
      rw [List.take_length]
      refine ⟨some ⟨b25, 0, none⟩, n, [iseg b25 n (levelsF (EU rs) (ED rs) n bls)], by simp [retVal], rfl, ?_⟩
      have := row_own (S := S) (w0 := w0) (η := [iseg b25 n (levelsF (EU rs) (ED rs) n bls)]) (b := b25) (cs := intC n (levelsF (EU rs) (ED rs) n bls)) (e := 3) (by simp)
      simpa [ints, intC, Function.comp_def] using this
theorem inAll_iff {rels : Int} : ∀ {l : List Int}, inAll rels l = true ↔ ∀ x ∈ l, inR x rels = true
  | [] => by simp [inAll]
  | x :: r => by simp [inAll, inAll_iff (l := r)]

set_option maxHeartbeats 2000000 in
theorem Reach_fn {p fa : Option Addr} {rs : List RuleD} {fr : List Int} {c fc : Nat} (rels : Int) (hr : Rules S w0 [] p rs) (hl : rs.length < 2 ^ 63) (hfr : Row S w0 [] fa (ints fr)) (hfl : fr.length < 2 ^ 63) :
    Rt Try.prog 17 [.int .i64 rels, .slice p rs.length c, .slice fa fr.length fc].toArray S w0 η (fun v η' => ∃ a cap segs, v = .tuple #[.slice a (reachS rels rs fr).1.length cap, .int .i64 (reachS rels rs fr).2] ∧ η' = segs ++ η ∧ Row S w0 segs a (nats (reachS rels rs fr).1)) := by
  have hF := open_wide
  refine Rt.of (fn := Try.f17) Try.func17 rfl rfl ?_
  refine T.seq ?_
  refine T.region ?_
  refine TL.assign hF rfl rfl ?_
  refine TL.assign hF rfl rfl ?_
  refine TL.nil ?_
  refine TQ.then_n ?_
  refine T.seq ?_
  refine T.seq ?_
  refine T.region ?_
  refine TL.move hF rfl rfl ?_
  refine TL.move hF rfl rfl ?_
  refine TL.callV hF (Check_fn rels hr.ro hl) rfl rfl ?_
  refine TL.assign hF rfl rfl ?_
  refine TL.nil ?_
  refine TQ.then_n ?_
  refine T.seq ?_
  refine T.region ?_
  refine TL.move hF rfl rfl ?_
  refine TL.bin hF rfl rfl rfl rfl ?_
  refine TL.nil ?_
  refine TQ.then_n ?_
  first | refine T.cond_d rfl (fun ht19 => ?_) (fun ht19 => ?_) | refine T.cond _ rfl (fun ht19 => ?_) (fun ht19 => ?_)
  · refine T.seq ?_
    refine T.region ?_
    refine TL.move hF rfl rfl ?_
    refine TL.assign hF rfl rfl ?_
    refine TL.assign hF rfl rfl ?_
    refine TL.nil ?_
    refine TQ.then_n ?_
    refine T.ret ?_
    refine TQ.then_r ?_
    refine TQ.rets [6, 7] _ rfl rfl rfl ?_
    have e : reachS rels rs fr = ([], check rels rs) := by unfold reachS; rw [if_pos ht19]
    rw [e]
    exact ⟨none, 0, [], rfl, rfl, ⟨fun h => by simp at h, fun i v h => by simp at h⟩⟩
  · refine T.skip ?_
    refine TQ.then_n ?_
    refine T.seq ?_
    refine T.seq ?_
    refine T.region ?_
    refine TL.assign hF rfl rfl ?_
    refine TL.nil ?_
    refine TQ.then_n ?_
    refine T.block ?_
    obtain ⟨hk1, hk2, hk3, hk4⟩ := check_ok (Classical.not_not.1 ht19)
    obtain ⟨n, rfl⟩ : ∃ n : Nat, rels = (n : Int) := ⟨rels.toNat, by omega⟩
    have hb := errs_body hk4
    refine T.loop (ι := Nat) (fun k => k ≤ fr.length ∧ inAll n fr = inAll n (fr.drop k)) (fun k => [(0, .int .i64 (n : Int)), (1, .slice p rs.length c), (2, .slice fa fr.length fc), (9, .int .i64 (k : Int))]) (fun _ => η) (fun k => fr.length - k) 0 ⟨Nat.zero_le _, by simp⟩ ⟨rfl, rfl, rfl, rfl, trivial⟩ rfl ?_
    rintro k ⟨hk, hs⟩
    refine T.seq ?_
    refine T.seq ?_
    refine T.region ?_
    refine TL.move hF rfl rfl ?_
    refine TL.move hF rfl rfl ?_
    refine TL.len hF rfl rfl ?_
    refine TL.bin hF rfl rfl rfl rfl ?_
    refine TL.nil ?_
    refine TQ.then_n ?_
    first | refine T.cond_d rfl (fun ht24 => ?_) (fun ht24 => ?_) | refine T.cond _ rfl (fun ht24 => ?_) (fun ht24 => ?_)
    · refine T.skip ?_
      refine TQ.then_n ?_
      refine T.seq ?_
      refine T.block ?_
      refine T.seq ?_
      refine T.region ?_
      refine TL.move hF rfl rfl ?_
      refine TL.move hF rfl rfl ?_
      refine TL.indexAddr hF rfl rfl (hfr.adi (i := k) (by simp; omega)) (by omega) (by omega) rfl ?_
      refine TL.load hF rfl (hfr.ro.int (i := k) (by omega)) rfl ?_
      refine TL.move hF rfl rfl ?_
      refine TL.callV hF (in_fn _ _) rfl rfl ?_
      refine TL.not hF rfl rfl ?_
      refine TL.nil ?_
      refine TQ.then_n ?_
      refine T.cond _ rfl (fun ht33 => ?_) (fun ht33 => ?_)
      · refine T.seq ?_
        refine T.region ?_
        refine TL.assign hF rfl rfl ?_
        refine TL.assign hF rfl rfl ?_
        refine TL.nil ?_
        refine TQ.then_n ?_
        refine T.ret ?_
        refine TQ.block_r ?_
        refine TQ.then_r ?_
        refine TQ.then_r ?_
        refine TQ.block_r ?_
        refine TQ.then_r ?_
        refine TQ.rets [6, 7] _ rfl rfl rfl ?_
        have hf : inAll n fr = false := by rw [hs, drop_step (by omega), inAll]; simp at ht33; simp [ht33]
        have e : reachS n rs fr = ([], 2) := by unfold reachS; rw [if_neg (by simpa using ht19), if_pos hf]
        rw [e]
        exact ⟨none, 0, [], rfl, rfl, ⟨fun h => by simp at h, fun i v h => by simp at h⟩⟩
      · refine T.skip ?_
        refine TQ.block_n ?_
        refine TQ.then_n ?_
        refine T.region ?_
        refine TL.move hF rfl rfl ?_
        refine TL.add hF rfl rfl (by omega) (by omega) rfl ?_
        refine TL.assign hF rfl rfl ?_
        refine TL.nil ?_
        refine TQ.round (k + 1) ⟨by omega, by rw [hs, drop_step (by omega), inAll]; simp at ht33; simp [ht33]⟩ (by omega) ⟨rfl, rfl, rfl, rfl, trivial⟩ rfl
    · refine T.exit ?_
      refine TQ.then_x ?_
      refine TQ.then_x ?_
      refine TQ.block_x ?_
      refine TQ.then_n ?_
      refine T.seq ?_
      refine T.region ?_
      refine TL.move hF rfl rfl ?_
      refine TL.move hF rfl rfl ?_
      refine TL.call hF (Leads_fn (n := n) hr hl hb (by omega)) rfl rfl ?_
      rintro _ _ ⟨ma, mc, msg, rfl, rfl, hM⟩
      have hall : inAll n fr = true := by rw [hs, List.drop_of_length_le (by omega)]; rfl
      obtain ⟨f, hf⟩ := hM
      refine TL.assign hF rfl rfl ?_
      refine TL.nil ?_
      refine TQ.then_n ?_
      refine T.seq ?_
      refine T.region ?_
      refine TL.assign hF rfl rfl ?_
      refine TL.nil ?_
      refine TQ.then_n ?_
      refine T.seq ?_
      refine T.seq ?_
      refine T.region ?_
      refine TL.assign hF rfl rfl ?_
      refine TL.nil ?_
      refine TQ.then_n ?_
      refine T.block ?_
      refine T.hnil ?_
      refine T.loop (ι := Nat × List Nat × Option Addr × Nat × Seg) (fun i => i.1 ≤ n ∧ i.2.1 = (List.range i.1).filter (hits (fwM (EU rs) n) (fr.map Int.toNat)) ∧ OSl 3 1 (.slice i.2.2.1 i.2.1.length i.2.2.2.1) i.2.1.length (nats i.2.1) i.2.2.2.2) (fun i => [(0, .int .i64 (n : Int)), (1, .slice p rs.length c), (2, .slice fa fr.length fc), (10, .slice ma n mc), (11, .slice i.2.2.1 i.2.1.length i.2.2.2.1), (12, .int .i64 (i.1 : Int))]) (fun i => i.2.2.2.2 :: (msg ++ η)) (fun i => n - i.1) (0, [], none, 0, []) ⟨Nat.zero_le _, rfl, OSl.nil 3 1⟩ ⟨rfl, rfl, rfl, rfl, rfl, rfl, trivial⟩ rfl ?_
      rintro ⟨q, l, a, cap, seg⟩ ⟨hq, hlq, ho⟩
      simp only at hq hlq ho
      have hlen : l.length ≤ q := by rw [hlq]; simpa using List.length_filter_le (p := (hits (fwM (EU rs) n) (fr.map Int.toNat))) (l := List.range q)
      refine T.seq ?_
      refine T.seq ?_
      refine T.region ?_
      refine TL.move hF rfl rfl ?_
      refine TL.move hF rfl rfl ?_
      refine TL.bin hF rfl rfl rfl rfl ?_
      refine TL.nil ?_
      refine TQ.then_n ?_
      first | refine T.cond_d rfl (fun ht39 => ?_) (fun ht39 => ?_) | refine T.cond _ rfl (fun ht39 => ?_) (fun ht39 => ?_)
      · refine T.skip ?_
        refine TQ.then_n ?_
        refine T.seq ?_
        refine T.block ?_
        refine T.seq ?_
        refine T.region ?_
        refine TL.move hF rfl rfl ?_
        refine TL.move hF rfl rfl ?_
        refine TL.callV hF (has_fn (q : Int) hfr.ro hfl) rfl rfl ?_
        refine TL.assign hF rfl rfl ?_
        refine TL.nil ?_
        refine TQ.then_n ?_
        refine T.seq ?_
        refine T.seq ?_
        refine T.region ?_
        refine TL.assign hF rfl rfl ?_
        refine TL.nil ?_
        refine TQ.then_n ?_
        refine T.block ?_
        have hup : ∀ x ∈ msg, x ∈ seg :: (msg ++ η) := fun x hx => List.mem_cons_of_mem _ (List.mem_append_left _ hx)
        have hqn : q < n := by have h : (q : Int) < n := ht39; omega
        refine T.loop (ι := Nat) (fun i => i ≤ fr.length) (fun i => [(0, .int .i64 (n : Int)), (1, .slice p rs.length c), (2, .slice fa fr.length fc), (10, .slice ma n mc), (11, .slice a l.length cap), (12, .int .i64 (q : Int)), (13, .bool (decide ((q : Int) ∈ fr) || ((fr.take i).map Int.toNat).any (fun s => (fwM (EU rs) n) q s))), (14, .int .i64 (i : Int))]) (fun i => seg :: (msg ++ η)) (fun i => fr.length - i) 0 (Nat.zero_le _) ⟨rfl, rfl, rfl, rfl, rfl, rfl, congrArg (fun z => some (Value.bool z)) (by simp), rfl, trivial⟩ rfl ?_
        rintro i hi
        refine T.seq ?_
        refine T.seq ?_
        refine T.region ?_
        refine TL.move hF rfl rfl ?_
        refine TL.move hF rfl rfl ?_
        refine TL.len hF rfl rfl ?_
        refine TL.bin hF rfl rfl rfl rfl ?_
        refine TL.nil ?_
        refine TQ.then_n ?_
        first | refine T.cond_d rfl (fun ht48 => ?_) (fun ht48 => ?_) | refine T.cond _ rfl (fun ht48 => ?_) (fun ht48 => ?_)
        · refine T.skip ?_
          refine TQ.then_n ?_
          refine T.seq ?_
          refine T.block ?_
          have hin := inAll_iff.1 hall fr[i] (List.getElem_mem _)
          have hin' : 0 ≤ fr[i] ∧ fr[i] < n := by simpa [inR] using hin
          cases hp : (decide ((q : Int) ∈ fr) || ((fr.take i).map Int.toNat).any (fun s => (fwM (EU rs) n) q s))
          · refine T.draw ?_
            refine DR.stepV [_] rfl [(13, _, none)] rfl rfl ⟨⟨rfl, by kernel_rfl⟩, trivial⟩ (fun ext => TL.move hF rfl rfl TL.fin) ?_
            refine DR.stepV [_, _] rfl [(51, _, some 0)] rfl rfl ⟨⟨rfl, rfl, rfl⟩, trivial⟩ (fun ext => TL.move hF rfl rfl TL.fin) ?_
            refine DR.stepV [_, _, _] rfl [(10, _, none), (52, _, some 1)] rfl rfl ⟨⟨rfl, by kernel_rfl⟩, ⟨rfl, rfl, rfl⟩, trivial⟩ (fun ext => TL.on rfl rfl rfl rfl <| TL.move hF rfl rfl TL.fin) ?_
            refine DR.stepV [_, _, _, _] rfl [(12, _, none), (52, _, some 1)] rfl rfl ⟨⟨rfl, by kernel_rfl⟩, ⟨rfl, rfl, rfl⟩, trivial⟩ (fun ext => TL.on rfl rfl rfl rfl <| TL.move hF rfl rfl TL.fin) ?_
            refine DR.stepV [_, _, _, _, _] rfl [(53, _, some 2), (54, _, some 3), (52, _, some 1)] rfl rfl ⟨⟨rfl, rfl, rfl⟩, ⟨rfl, rfl, rfl⟩, ⟨rfl, rfl, rfl⟩, trivial⟩ (fun ext => TL.on rfl rfl rfl rfl <| TL.indexAddr hF rfl rfl (hf q hqn).1 (by omega) (by omega) rfl TL.fin) ?_
            refine DR.stepV [_, _, _, _, _, _] rfl [(55, _, some 4), (52, _, some 1)] rfl rfl ⟨⟨rfl, rfl, rfl⟩, ⟨rfl, rfl, rfl⟩, trivial⟩ (fun ext => TL.on rfl rfl rfl rfl <| TL.load hF rfl ((hf q hqn).2.1.up hup) rfl TL.fin) ?_
            refine DR.stepV [_, _, _, _, _, _, _] rfl [(2, _, none), (52, _, some 1)] rfl rfl ⟨⟨rfl, by kernel_rfl⟩, ⟨rfl, rfl, rfl⟩, trivial⟩ (fun ext => TL.on rfl rfl rfl rfl <| TL.move hF rfl rfl TL.fin) ?_
            refine DR.stepV [_, _, _, _, _, _, _, _] rfl [(14, _, none), (52, _, some 1)] rfl rfl ⟨⟨rfl, by kernel_rfl⟩, ⟨rfl, rfl, rfl⟩, trivial⟩ (fun ext => TL.on rfl rfl rfl rfl <| TL.move hF rfl rfl TL.fin) ?_
            refine DR.stepV [_, _, _, _, _, _, _, _, _] rfl [(57, _, some 6), (58, _, some 7), (52, _, some 1)] rfl rfl ⟨⟨rfl, rfl, rfl⟩, ⟨rfl, rfl, rfl⟩, ⟨rfl, rfl, rfl⟩, trivial⟩ (fun ext => TL.on rfl rfl rfl rfl <| TL.indexAddr hF rfl rfl (hfr.adi (i := i) (by simp; omega)) (by omega) (by omega) rfl TL.fin) ?_
            refine DR.stepV [_, _, _, _, _, _, _, _, _, _] rfl [(59, _, some 8), (52, _, some 1)] rfl rfl ⟨⟨rfl, rfl, rfl⟩, ⟨rfl, rfl, rfl⟩, trivial⟩ (fun ext => TL.on rfl rfl rfl rfl <| TL.load hF rfl (hfr.ro.int (i := i) (by omega)) rfl TL.fin) ?_
            refine DR.done [(60, _), (59, _), (58, _), (57, _), (56, _), (55, _), (54, _), (53, _), (52, _), (51, _)] [_, _, _, _] mixed (by kernel_rfl) (by kernel_rfl) (by kernel_rfl) rfl rfl ?_
            refine TL.on rfl rfl rfl rfl ?_
            refine TL.indexAddr hF rfl rfl ((hf q hqn).2.2.bad (j := 0) (by omega)) (by omega) (by omega) rfl ?_
            refine TL.on rfl rfl rfl rfl ?_
            refine TL.load hF rfl (((hf q hqn).2.2.bit (j := (fr[i]).toNat) (by omega)).up hup) rfl ?_
            refine TL.pickF hF rfl rfl rfl rfl ?_
            refine TL.assign hF rfl rfl ?_
            refine TL.nil ?_
            refine TQ.block_n ?_
            refine TQ.then_n ?_
            refine T.region ?_
            refine TL.move hF rfl rfl ?_
            refine TL.add hF rfl rfl (by omega) (by omega) rfl ?_
            refine TL.assign hF rfl rfl ?_
            refine TL.nil ?_
            refine TQ.round (i + 1) (by omega) (by omega) ⟨rfl, rfl, rfl, rfl, rfl, rfl, congrArg (fun z => some (Value.bool z)) (by rw [List.take_succ_eq_append_getElem (by omega), List.map_append, List.any_append, ← Bool.or_assoc, hp]; simp), rfl, trivial⟩ rfl
          · refine T.draw ?_
            refine DR.stepV [_] rfl [(13, _, none)] rfl rfl ⟨⟨rfl, by kernel_rfl⟩, trivial⟩ (fun ext => TL.move hF rfl rfl TL.fin) ?_
            refine DR.stepV [_, _] rfl [(51, _, some 0)] rfl rfl ⟨⟨rfl, rfl, rfl⟩, trivial⟩ (fun ext => TL.move hF rfl rfl TL.fin) ?_
            refine DR.stepV [_, _, _] rfl [(10, _, none), (52, _, some 1)] rfl rfl ⟨⟨rfl, by kernel_rfl⟩, ⟨rfl, rfl, rfl⟩, trivial⟩ (fun ext => TL.off hF rfl rfl rfl rfl rfl TL.fin) ?_
            refine DR.stepV [_, _, _, _] rfl [(12, _, none), (52, _, some 1)] rfl rfl ⟨⟨rfl, by kernel_rfl⟩, ⟨rfl, rfl, rfl⟩, trivial⟩ (fun ext => TL.off hF rfl rfl rfl rfl rfl TL.fin) ?_
            refine DR.stepV [_, _, _, _, _] rfl [(53, _, some 2), (54, _, some 3), (52, _, some 1)] rfl rfl ⟨⟨rfl, rfl, rfl⟩, ⟨rfl, rfl, rfl⟩, ⟨rfl, rfl, rfl⟩, trivial⟩ (fun ext => TL.off hF rfl rfl rfl rfl rfl TL.fin) ?_
            refine DR.stepV [_, _, _, _, _, _] rfl [(55, _, some 4), (52, _, some 1)] rfl rfl ⟨⟨rfl, rfl, rfl⟩, ⟨rfl, rfl, rfl⟩, trivial⟩ (fun ext => TL.off hF rfl rfl rfl rfl rfl TL.fin) ?_
            refine DR.stepV [_, _, _, _, _, _, _] rfl [(2, _, none), (52, _, some 1)] rfl rfl ⟨⟨rfl, by kernel_rfl⟩, ⟨rfl, rfl, rfl⟩, trivial⟩ (fun ext => TL.off hF rfl rfl rfl rfl rfl TL.fin) ?_
            refine DR.stepV [_, _, _, _, _, _, _, _] rfl [(14, _, none), (52, _, some 1)] rfl rfl ⟨⟨rfl, by kernel_rfl⟩, ⟨rfl, rfl, rfl⟩, trivial⟩ (fun ext => TL.off hF rfl rfl rfl rfl rfl TL.fin) ?_
            refine DR.stepV [_, _, _, _, _, _, _, _, _] rfl [(57, _, some 6), (58, _, some 7), (52, _, some 1)] rfl rfl ⟨⟨rfl, rfl, rfl⟩, ⟨rfl, rfl, rfl⟩, ⟨rfl, rfl, rfl⟩, trivial⟩ (fun ext => TL.off hF rfl rfl rfl rfl rfl TL.fin) ?_
            refine DR.stepV [_, _, _, _, _, _, _, _, _, _] rfl [(59, _, some 8), (52, _, some 1)] rfl rfl ⟨⟨rfl, rfl, rfl⟩, ⟨rfl, rfl, rfl⟩, trivial⟩ (fun ext => TL.off hF rfl rfl rfl rfl rfl TL.fin) ?_
            refine DR.done [(60, _), (59, _), (58, _), (57, _), (56, _), (55, _), (54, _), (53, _), (52, _), (51, _)] [_, _, _, _] mixed (by kernel_rfl) (by kernel_rfl) (by kernel_rfl) rfl rfl ?_
            refine TL.off hF rfl rfl rfl rfl rfl ?_
            refine TL.off hF rfl rfl rfl rfl rfl ?_
            refine TL.pickT hF rfl rfl rfl rfl ?_
            refine TL.assign hF rfl rfl ?_
            refine TL.nil ?_
            refine TQ.block_n ?_
            refine TQ.then_n ?_
            refine T.region ?_
            refine TL.move hF rfl rfl ?_
            refine TL.add hF rfl rfl (by omega) (by omega) rfl ?_
            refine TL.assign hF rfl rfl ?_
            refine TL.nil ?_
            refine TQ.round (i + 1) (by omega) (by omega) ⟨rfl, rfl, rfl, rfl, rfl, rfl, congrArg (fun z => some (Value.bool z)) (by rw [List.take_succ_eq_append_getElem (by omega), List.map_append, List.any_append, ← Bool.or_assoc, hp]; simp), rfl, trivial⟩ rfl
        · refine T.exit ?_
          refine TQ.then_x ?_
          refine TQ.then_x ?_
          refine TQ.block_x ?_
          refine TQ.then_n ?_
          refine T.seq ?_
          refine T.region ?_
          refine TL.move hF rfl rfl ?_
          refine TL.nil ?_
          refine TQ.then_n ?_
          have hil : i = fr.length := by omega
          subst hil
          have hpr : (decide ((q : Int) ∈ fr) || ((fr.take fr.length).map Int.toNat).any (fun s => (fwM (EU rs) n) q s)) = (hits (fwM (EU rs) n) (fr.map Int.toNat)) q := by
            rw [List.take_length, hits]
            congr 1
            rw [Bool.eq_iff_iff]; simp only [decide_eq_true_eq, List.contains_iff_mem, List.mem_map]
            constructor
            · intro h; exact ⟨_, h, by simp⟩
            · rintro ⟨x, hx, he⟩
              have hin' : 0 ≤ x ∧ x < n := by simpa [inR] using inAll_iff.1 hall x hx
              have : x = (q : Int) := by omega
              rw [← this]; exact hx
          rw [hpr]
          refine T.cond _ rfl (fun ht64 => ?_) (fun ht64 => ?_)
          · refine T.region ?_
            refine TL.move hF rfl rfl ?_
            refine TL.move hF rfl rfl ?_
            refine TL.buildSlice hF rfl (cs := #[.int .i64 (q : Int)]) (e := 3) (fun w => by kernel_rfl) rfl (fun b67 => ?_)
            refine TL.append hF 1 rfl rfl rfl ho (row_own (cs := [.int .i64 (q : Int)]) (e := 3) (by simp)).src rfl rfl (by simp [Value.oneCell']) (by omega) (by omega) rfl (fun a' cap' seg' ho' => ?_)
            refine TL.assign hF rfl rfl ?_
            refine TL.nil ?_
            refine TQ.block_n ?_
            refine TQ.then_n ?_
            refine T.region ?_
            refine TL.move hF rfl rfl ?_
            refine TL.add hF rfl rfl (by omega) (by omega) rfl ?_
            refine TL.assign hF rfl rfl ?_
            refine TL.nil ?_
            have e1 : (l ++ [q]).length = l.length + 1 := by simp
            refine TQ.pop ?_
            refine TQ.round (q + 1, l ++ [q], a', cap', seg') ⟨by simp only; omega, ?_, by simpa using ho'⟩ (by simp only; omega) ⟨rfl, rfl, rfl, rfl, congrArg (fun z => some (Value.slice a' z cap')) e1.symm, rfl, trivial⟩ rfl
            rw [List.range_succ, List.filter_append, ← hlq]; simp [ht64]
          · refine T.skip ?_
            refine TQ.block_n ?_
            refine TQ.then_n ?_
            refine T.region ?_
            refine TL.move hF rfl rfl ?_
            refine TL.add hF rfl rfl (by omega) (by omega) rfl ?_
            refine TL.assign hF rfl rfl ?_
            refine TL.nil ?_
            refine TQ.round (q + 1, l, a, cap, seg) ⟨by simp only; omega, ?_, ho⟩ (by simp only; omega) ⟨rfl, rfl, rfl, rfl, rfl, rfl, trivial⟩ rfl
            rw [List.range_succ, List.filter_append, ← hlq]; simp [ht64]
      · refine T.exit ?_
        refine TQ.then_x ?_
        refine TQ.then_x ?_
        refine TQ.block_x ?_
        refine TQ.then_n ?_
        refine T.seq ?_
        refine T.region ?_
        refine TL.move hF rfl rfl ?_
        refine TL.assign hF rfl rfl ?_
        refine TL.assign hF rfl rfl ?_
        refine TL.nil ?_
        refine TQ.then_n ?_
        refine T.ret ?_
        refine TQ.hsub (seg :: η) (List.Sublist.cons_cons _ (List.sublist_append_right _ _)) ?_
        refine TQ.rets [6, 7] _ rfl rfl rfl ?_
        have hqn : q = n := by have h : ¬ (q : Int) < n := ht39; omega
        subst hqn
        have e : reachS q rs fr = (l, 0) := by unfold reachS; rw [if_neg (by simpa using ht19), if_neg (by simp [hall]), Int.toNat_natCast, hlq]
        rw [e]
        exact ⟨a, cap, [seg], rfl, rfl, ho.row (by simp)⟩
end Go.Proofs.Ytdehpaikapbckaa
/- The program's web of uses. -/
namespace Go.Proofs.Ytdehpaikapbckaa
open Go.Sl
variable {S : Nat → Prop} {w0 : World} {η : Heap}
def KU (p : Int × Int) : Value := .agg #[.int .i64 p.1, .int .i64 p.2]
theorem eq76 (a b : Int × Int) (w : World) : (Op.equal 76 (KU a) (KU b)).run Try.prog w = .ok (decide (a = b)) w := by
  have hf : Try.prog.underlying 76 = some (.struct (Try.prog.fieldsOf 76)) := by kernel_rfl
  have hs : Try.prog.stoodInHeld 76 = false := by kernel_rfl
  obtain ⟨f1, f2, h12, h3, h4, h5, h6, h7, h8⟩ : ∃ f1 f2, (Try.prog.fieldsOf 76).toList = [f1, f2] ∧ f1.name ≠ "_" ∧ f2.name ≠ "_" ∧ f1.type = 3 ∧ f2.type = 3 ∧ f1.offset = 0 ∧ f2.offset = 1 := by
    unfold Program.fieldsOf; rw [Try.underlying76]
    exact ⟨_, _, rfl, by decide, by decide, rfl, rfl, rfl, rfl⟩
  have hp : ∀ (xs : Array Value) (o : Nat) (v : Value), xs[o]? = some v → (part 3 xs o).run Try.prog w = .ok v w := by
    intro xs o v h
    simp [part, Ag.eq (P := Try.prog) (t := 3) (b := false), h]
  unfold Op.equal KU
  rw [show Op.maxDepth = 9999 + 1 from rfl, run_equalIn_struct w 9999 76 _ _ hf hs, h12]
  simp only [Op.eqFields, ne_eq, h3, h4, not_false_eq_true, if_true, h5, h6, h7, h8, Sem.run_bind]
  have he : ∀ x y : Int, (Op.equalIn 9999 3 (.int .i64 x) (.int .i64 y)).run Try.prog w = .ok (x == y) w := fun x y => run_equalIn_int w 9998 3 .i64 .i64 x y Try.underlying3
  obtain ⟨a1, a2⟩ := a
  obtain ⟨b1, b2⟩ := b
  rw [hp _ 0 (.int .i64 a1) rfl, Result.andThen_ok, hp _ 0 (.int .i64 b1) rfl, Result.andThen_ok, he, Result.andThen_ok]
  by_cases h : a1 = b1
  · subst h
    simp only [beq_self_eq_true, Bool.not_true, Bool.false_eq_true, if_false, Sem.run_bind]
    rw [hp _ 1 (.int .i64 a2) rfl, Result.andThen_ok, hp _ 1 (.int .i64 b2) rfl, Result.andThen_ok, he, Result.andThen_ok]
    by_cases h2 : a2 = b2
    · subst h2; simp
    · have : (a2 == b2) = false := by simp [h2]
      simp [this, h2]
  · have : (a1 == b1) = false := by simp [h]
    simp [this, h]
instance : MKey Try.prog 76 KU where
  chk k e w := by kernel_rfl
  find k es l w h := by
    have h1 := find_asking (K := KU) (kt := 76) eq76 k es l 0 w h
    have h2 : (Instr.findKey 76 (KU k) es).run Try.prog w = (Instr.findAsking 76 (KU k) es 0).run Try.prog w := by
      have hu : ∃ fs, Try.prog.underlying 76 = some (.struct fs) := ⟨_, Try.underlying76⟩
      obtain ⟨fs, hu⟩ := hu
      have hr : (underlying 76).run Try.prog w = .ok (.struct fs) w := by simp [underlying, hu]
      cases es with
      | nil => simp [Instr.findKey, hr, Instr.findNow, Instr.findAsking]
      | cons e es => simp [Instr.findKey, hr, Instr.findNow, Instr.sameNow]
    rw [h2, h1]; simp
  same k := by simp [KU, Instr.sameBits]
/-- The web, and its map, in memory. -/
abbrev wseg (bw bm : Nat) (n : Int) : Seg := [(bw, .cells #[.int .i64 n, .map (some bm)] 84 (0, 0))]
/-- What the map holds. -/
def WOk (U : Int → Int → Bool → Bool) (m : List ((Int × Int) × Bool)) : Prop := ∀ a b, mget (a, b) m = if U a b false = true then some (U a b true) else none
structure Web (η : Heap) (bw : Nat) (n : Int) (U : Int → Int → Bool → Bool) (m : List ((Int × Int) × Bool)) : Prop where
  ex : ∃ bm es clock, wseg bw bm n ∈ η ∧ [(bm, Obj.map es clock)] ∈ η ∧ MObj KU Value.bool m es clock
  ok : WOk U m
theorem Web.up {η' : Heap} {bw : Nat} {n : Int} {U : Int → Int → Bool → Bool} {m : List ((Int × Int) × Bool)} (h : Web η bw n U m) (hs : ∀ s ∈ η, s ∈ η') : Web η' bw n U m := by
  obtain ⟨bm, es, clock, h1, h2, h3⟩ := h.ex
  exact ⟨⟨bm, es, clock, hs _ h1, hs _ h2, h3⟩, h.ok⟩
theorem own_mem {b : Nat} {cs : Array Value} {e : TypeId} {fz : Nat × Nat} {off : Nat} {v : Value} (h : [(b, Obj.cells cs e fz)] ∈ η) (hc : cs[off]? = some v) : At S w0 η ⟨b, off, none⟩ v := .own _ h cs e fz (by simp) hc rfl

set_option maxHeartbeats 2000000 in
theorem within_fn (h rels : Int) :
    Rt Try.prog 63 [.agg #[.int .i64 h], .int .i64 rels].toArray S w0 η (fun v η' => v = .bool (inR h rels) ∧ η' = η) := by
  have hF := open_wide
  refine Rt.of (fn := Try.f63) Try.func63 rfl rfl ?_
  refine T.seq ?_
  refine T.region ?_
  refine TL.box hF rfl rfl (fun b2 => ?_)
  refine TL.assign hF rfl rfl ?_
  refine TL.nil ?_
  refine TQ.then_n ?_
  refine T.seq ?_
  refine T.region ?_
  refine TL.fieldAddr hF rfl rfl ?_
  refine TL.load hF rfl (by first | exact At.own' (i := 0) rfl rfl | exact At.own' (i := 1) rfl rfl | exact At.own' (i := 2) rfl rfl | exact At.own' (i := 3) rfl rfl | exact At.own' (i := 4) rfl rfl) rfl ?_
  refine TL.bin hF rfl rfl rfl rfl ?_
  refine TL.move hF rfl rfl ?_
  refine TL.gd (t := 8) rfl (fun g1_8 => ?_) (fun g1_8 => ?_)
  · refine TL.on rfl rfl rfl (decide_eq_true g1_8) ?_
    refine TL.fieldAddr hF rfl rfl ?_
    refine TL.on rfl rfl rfl (decide_eq_true g1_8) ?_
    refine TL.load hF rfl (by first | exact At.own' (i := 0) rfl rfl | exact At.own' (i := 1) rfl rfl | exact At.own' (i := 2) rfl rfl | exact At.own' (i := 3) rfl rfl | exact At.own' (i := 4) rfl rfl) rfl ?_
    refine TL.on rfl rfl rfl (decide_eq_true g1_8) ?_
    refine TL.move hF rfl rfl ?_
    refine TL.on rfl rfl rfl (decide_eq_true g1_8) ?_
    refine TL.bin hF rfl rfl rfl rfl ?_
    refine TL.pickT hF rfl (decide_eq_true g1_8) rfl rfl ?_
    refine TL.assign hF rfl rfl ?_
    refine TL.nil ?_
    refine TQ.then_n ?_
    refine T.ret ?_
    refine TQ.pop ?_
    refine TQ.rets [4] _ rfl rfl rfl ?_
    exact ⟨by simp [retVal, inR, *], rfl⟩
  · refine TL.off hF rfl rfl rfl (decide_eq_false g1_8) rfl ?_
    refine TL.off hF rfl rfl rfl (decide_eq_false g1_8) rfl ?_
    refine TL.off hF rfl rfl rfl (decide_eq_false g1_8) rfl ?_
    refine TL.off hF rfl rfl rfl (decide_eq_false g1_8) rfl ?_
    refine TL.pickF hF rfl (decide_eq_false g1_8) rfl rfl ?_
    refine TL.assign hF rfl rfl ?_
    refine TL.nil ?_
    refine TQ.then_n ?_
    refine T.ret ?_
    refine TQ.pop ?_
    refine TQ.rets [4] _ rfl rfl rfl ?_
    exact ⟨by simp [retVal, inR, *], rfl⟩
set_option maxHeartbeats 2000000 in
theorem headClear_fn (h rels : Int) :
    RtE Try.prog 46 [.agg #[.int .i64 h], .int .i64 rels].toArray S w0 η (fun _v η' => inR h rels = true ∧ η' = η) (fun ch η' => inR h rels = false ∧ ch = stopV 2 ∧ η' = η) := by
  have hF := open_wide
  refine RtE.of (fn := Try.f46) Try.func46 rfl rfl ?_
  refine T.seq ?_
  refine T.region ?_
  refine TL.box hF rfl rfl (fun b2 => ?_)
  refine TL.nil ?_
  refine TQ.then_n ?_
  refine T.region ?_
  refine TL.loadA hF [.int .i64 h] rfl rfl (own_list (i := 0) rfl) rfl ?_
  refine TL.move hF rfl rfl ?_
  refine TL.callV hF (within_fn h rels) rfl rfl ?_
  refine TL.callE hF (must_fn (inR h rels) 2) rfl rfl ?_ ?_
  · rintro v η' ⟨hi, rfl⟩
    refine TL.nil ?_
    refine TQ.norm ?_
    refine TQ.pop ?_
    exact TQ.retsE [] _ rfl rfl rfl ⟨hi, rfl⟩
  · rintro ch η' ⟨hi, rfl, rfl⟩
    refine TQ.pop ?_
    exact TQ.panicE ⟨hi, rfl, rfl⟩ --stop
set_option maxHeartbeats 2000000 in
theorem any_fn {bw : Nat} {n : Int} {U : Int → Int → Bool → Bool} {m : List ((Int × Int) × Bool)} (hw : Web η bw n U m) (a b : Int) :
    Rt Try.prog 60 [.pointer (some ⟨bw, 0, none⟩), KU (a, b)].toArray S w0 η (fun v η' => v = .bool (U a b false) ∧ η' = η) := by
  have hF := open_wide
  refine Rt.of (fn := Try.f60) Try.func60 rfl rfl ?_
  refine T.seq ?_
  refine T.region ?_
  refine TL.box hF rfl rfl (fun b3 => ?_)
  refine TL.assign hF rfl rfl ?_
  refine TL.nil ?_
  refine TQ.then_n ?_
  refine T.seq ?_
  obtain ⟨bm, es, clock, hw1, hw2, hw3⟩ := hw.ex
  refine T.draw ?_
  refine DR.stepV [_] rfl [(0, _, none)] rfl rfl ⟨⟨rfl, by kernel_rfl⟩, trivial⟩ (fun ext => TL.move hF rfl rfl TL.fin) ?_
  refine DR.stepV [_, _] rfl [(8, _, some 0)] rfl rfl ⟨⟨rfl, rfl, rfl⟩, trivial⟩ (fun ext => TL.nilCheck hF rfl rfl TL.fin) ?_
  refine DR.stepV [_, _, _] rfl [(9, _, some 1)] rfl rfl ⟨⟨rfl, rfl, rfl⟩, trivial⟩ (fun ext => TL.fieldAddr hF rfl rfl TL.fin) ?_
  refine DR.stepV [_, _, _, _] rfl [(10, _, some 2)] rfl rfl ⟨⟨rfl, rfl, rfl⟩, trivial⟩ (fun ext => TL.load hF rfl (own_mem (List.mem_cons_of_mem _ hw1) rfl) rfl TL.fin) ?_
  refine DR.stepV [_, _, _, _, _] rfl [(3, _, none)] rfl rfl ⟨⟨rfl, by kernel_rfl⟩, trivial⟩ (fun ext => TL.loadA hF [.int .i64 a, .int .i64 b] rfl rfl (own_list (i := 0) rfl) rfl TL.fin) ?_
  refine DR.stepV [_, _, _, _, _, _] rfl [(11, _, some 3), (12, _, some 4)] rfl rfl ⟨⟨rfl, rfl, rfl⟩, ⟨rfl, rfl, rfl⟩, trivial⟩ (fun ext => TL.lookupOkB hF (K := KU) (a, b) rfl rfl (List.mem_cons_of_mem _ hw2) hw3 rfl TL.fin) ?_
  refine DR.stepV [_, _, _, _, _, _, _] rfl [(13, _, some 5)] rfl rfl ⟨⟨rfl, rfl, rfl⟩, trivial⟩ (fun ext => TL.move hF rfl rfl TL.fin) ?_
  refine DR.stepV [_, _, _, _, _, _, _, _] rfl [(7, _, some 6)] rfl rfl ⟨⟨rfl, rfl, rfl⟩, trivial⟩ (fun ext => TL.extract hF rfl rfl rfl TL.fin) ?_
  refine DR.stepV [_, _, _, _, _, _, _, _, _] rfl [(7, _, some 6)] rfl rfl ⟨⟨rfl, rfl, rfl⟩, trivial⟩ (fun ext => TL.extract hF rfl rfl rfl TL.fin) ?_
  refine DR.stepV [_, _, _, _, _, _, _, _, _, _] rfl [(14, _, some 7)] rfl rfl ⟨⟨rfl, rfl, rfl⟩, trivial⟩ (fun ext => TL.assign hF rfl rfl TL.fin) ?_
  refine DR.done [(5, _), (15, _), (14, _), (7, _), (13, _), (12, _), (11, _), (10, _), (9, _), (8, _)] [_] mixed (by kernel_rfl) (by kernel_rfl) (by kernel_rfl) rfl rfl ?_
  refine TL.assign hF rfl rfl ?_
  refine TL.nil ?_
  refine TQ.then_n ?_
  refine T.seq ?_
  refine T.region ?_
  refine TL.move hF rfl rfl ?_
  refine TL.assign hF rfl rfl ?_
  refine TL.nil ?_
  refine TQ.then_n ?_
  refine T.ret ?_
  refine TQ.pop ?_
  refine TQ.rets [4] _ rfl rfl rfl ?_
  exact ⟨by have := hw.ok a b; simp only [retVal]; rw [this]; cases U a b false <;> rfl, rfl⟩
set_option maxHeartbeats 2000000 in
theorem denial_fn {bw : Nat} {n : Int} {U : Int → Int → Bool → Bool} {m : List ((Int × Int) × Bool)} (hw : Web η bw n U m) (hU : ∀ a b, U a b true = true → U a b false = true) (a b : Int) :
    Rt Try.prog 61 [.pointer (some ⟨bw, 0, none⟩), KU (a, b)].toArray S w0 η (fun v η' => v = .bool (U a b true) ∧ η' = η) := by
  have hF := open_wide
  refine Rt.of (fn := Try.f61) Try.func61 rfl rfl ?_
  refine T.seq ?_
  refine T.region ?_
  refine TL.box hF rfl rfl (fun b3 => ?_)
  refine TL.assign hF rfl rfl ?_
  refine TL.nil ?_
  refine TQ.then_n ?_
  refine T.seq ?_
  obtain ⟨bm, es, clock, hw1, hw2, hw3⟩ := hw.ex
  refine T.draw ?_
  refine DR.stepV [_] rfl [(0, _, none)] rfl rfl ⟨⟨rfl, by kernel_rfl⟩, trivial⟩ (fun ext => TL.move hF rfl rfl TL.fin) ?_
  refine DR.stepV [_, _] rfl [(5, _, some 0)] rfl rfl ⟨⟨rfl, rfl, rfl⟩, trivial⟩ (fun ext => TL.nilCheck hF rfl rfl TL.fin) ?_
  refine DR.stepV [_, _, _] rfl [(6, _, some 1)] rfl rfl ⟨⟨rfl, rfl, rfl⟩, trivial⟩ (fun ext => TL.fieldAddr hF rfl rfl TL.fin) ?_
  refine DR.stepV [_, _, _, _] rfl [(7, _, some 2)] rfl rfl ⟨⟨rfl, rfl, rfl⟩, trivial⟩ (fun ext => TL.load hF rfl (own_mem (List.mem_cons_of_mem _ hw1) rfl) rfl TL.fin) ?_
  refine DR.stepV [_, _, _, _, _] rfl [(3, _, none)] rfl rfl ⟨⟨rfl, by kernel_rfl⟩, trivial⟩ (fun ext => TL.loadA hF [.int .i64 a, .int .i64 b] rfl rfl (own_list (i := 0) rfl) rfl TL.fin) ?_
  refine DR.done [(9, _), (8, _), (7, _), (6, _), (5, _)] [_, _] mixed (by kernel_rfl) (by kernel_rfl) (by kernel_rfl) rfl rfl ?_
  refine TL.lookupB hF (K := KU) (a, b) rfl rfl (List.mem_cons_of_mem _ hw2) hw3 rfl ?_
  refine TL.assign hF rfl rfl ?_
  refine TL.nil ?_
  refine TQ.then_n ?_
  refine T.ret ?_
  refine TQ.pop ?_
  refine TQ.rets [4] _ rfl rfl rfl ?_
  exact ⟨by have := hw.ok a b; have h2 := hU a b; simp only [retVal]; rw [this]; revert h2; cases U a b false <;> cases U a b true <;> simp, rfl⟩
end Go.Proofs.Ytdehpaikapbckaa
/- The program's check, and how its web is made. -/
namespace Go.Proofs.Ytdehpaikapbckaa
open Go.Sl
variable {S : Nat → Prop} {w0 : World} {η : Heap}
theorem bodyA {a : Option Addr} {l : List AtomD} (h : Row S w0 [] a (l.flatMap AtomD.cells)) {j : Nat} (hj : j < l.length) : ∀ k v, l[j].cells[k]? = some v → At S w0 η ⟨(sAt a (j * 3)).block, (sAt a (j * 3)).off + k, none⟩ v := fun k v hk => by
  have hk3 : k < 3 := by have := (List.getElem?_eq_some_iff.1 hk).1; rw [acells_len] at this; exact this
  rw [sAt_add]; exact h.ro.cell _ _ (by rw [flat_get 3 AtomD.cells acells_len _ j k hk3, List.getElem?_eq_getElem hj]; exact hk)
theorem bodyAd {a : Option Addr} {l : List AtomD} (h : Row S w0 [] a (l.flatMap AtomD.cells)) {j : Nat} (hj : j < l.length) : ∃ ad, a = some ad ∧ ad.spot = none := h.ad (by
  cases l with
  | nil => simp at hj
  | cons x l => simp [AtomD.cells])

abbrev WV (r : RuleD) : Value := .agg #[.int .i64 r.head, .slice r.ba r.body.length r.bc]
set_option maxHeartbeats 2000000 in
theorem clear_fn {r : RuleD} (rels : Int) (hb : Row S w0 [] r.ba (r.body.flatMap AtomD.cells)) (hl : r.body.length < 2 ^ 63) :
    RtE Try.prog 88 [WV r, .int .i64 rels].toArray S w0 η (fun _v η' => checkR rels r = 0 ∧ η' = η) (fun ch η' => checkR rels r ≠ 0 ∧ ch = stopV (checkR rels r) ∧ η' = η) := by
  have hF := open_wide
  refine RtE.of (fn := Try.f88) Try.func88 rfl rfl ?_
  refine T.seq ?_
  refine T.region ?_
  refine TL.box hF rfl rfl (fun b2 => ?_)
  refine TL.nil ?_
  refine TQ.then_n ?_
  refine T.seq ?_
  refine T.region ?_
  refine TL.fieldAddr hF rfl rfl ?_
  refine TL.load hF rfl (by first | exact At.own' (i := 0) rfl rfl | exact At.own' (i := 1) rfl rfl | exact At.own' (i := 2) rfl rfl | exact At.own' (i := 3) rfl rfl | exact At.own' (i := 4) rfl rfl) rfl ?_
  refine TL.len hF rfl rfl ?_
  refine TL.bin hF rfl rfl rfl rfl ?_
  refine TL.callE hF (must_fn _ 3) rfl rfl ?_ ?_
  · rintro _ _ ⟨h6, rfl⟩
    have h6' : ¬ 6 < r.body.length := by have := of_decide_eq_true h6; omega
    refine TL.nil ?_
    refine TQ.then_n ?_
    refine T.seq ?_
    refine T.region ?_
    refine TL.fieldAddr hF rfl rfl ?_
    refine TL.loadA hF [.int .i64 r.head] rfl rfl (fun i v hi => by
        rcases i with _ | i
        · simp at hi; subst hi; exact own_list (i := 0) (cs := [.int .i64 r.head, .slice r.ba r.body.length r.bc]) rfl 0 _ rfl
        · simp at hi) rfl ?_
    refine TL.move hF rfl rfl ?_
    refine TL.callE hF (headClear_fn r.head rels) rfl rfl ?_ ?_
    · rintro _ _ ⟨hi, rfl⟩
      refine TL.nil ?_
      refine TQ.then_n ?_
      refine T.seq ?_
      refine T.region ?_
      refine TL.fieldAddr hF rfl rfl ?_
      refine TL.load hF rfl (by first | exact At.own' (i := 0) rfl rfl | exact At.own' (i := 1) rfl rfl | exact At.own' (i := 2) rfl rfl | exact At.own' (i := 3) rfl rfl | exact At.own' (i := 4) rfl rfl) rfl ?_
      refine TL.len hF rfl rfl ?_
      refine TL.move hF rfl rfl ?_
      refine TL.nil ?_
      refine TQ.then_n ?_
      refine T.block ?_
      refine T.loop (ι := Nat) (fun j => j ≤ r.body.length ∧ atomsOk rels r.body = atomsOk rels (r.body.drop j)) (fun j => [(0, WV r), (1, .int .i64 rels), (2, .pointer (some ⟨b2, 0, none⟩)), (16, .slice r.ba r.body.length r.bc), (17, .int .i64 (r.body.length : Int)), (18, .int .i64 (j : Int))]) (fun _ => [(b2, .cells #[.int .i64 r.head, .slice r.ba r.body.length r.bc] 103 (0, 0))] :: η) (fun j => r.body.length - j) 0 ⟨Nat.zero_le _, by simp⟩ ⟨rfl, rfl, rfl, rfl, rfl, rfl, trivial⟩ rfl ?_
      rintro j ⟨hj, hjs⟩
      refine T.seq ?_
      refine T.region ?_
      refine TL.bin hF rfl rfl rfl rfl ?_
      refine TL.nil ?_
      refine TQ.then_n ?_
      refine T.seq ?_
      first | refine T.cond_d rfl (fun ht19 => ?_) (fun ht19 => ?_) | refine T.cond _ rfl (fun ht19 => ?_) (fun ht19 => ?_)
      · refine T.skip ?_
        refine TQ.then_n ?_
        refine T.seq ?_
        refine T.block ?_
        refine T.seq ?_
        refine T.region ?_
        refine TL.indexAddr hF rfl rfl (bodyAd hb (j := j) (by omega)) (by omega) (by omega) rfl ?_
        refine TL.loadA hF r.body[j].cells rfl rfl (bodyA hb (j := j) (by omega)) rfl ?_
        refine TL.alloc hF rfl (fun b5 => ?_)
        refine TL.storeAI hF r.body[j].cells 0 rfl rfl rfl rfl (by simp [AtomD.cells, Value.oneCell']) (by simp [Value.cells, acells_len]) ?_
        refine TL.nil ?_
        refine TQ.then_n ?_
        refine T.region ?_
        refine TL.fieldAddr hF rfl rfl ?_
        refine TL.load hF rfl (by first | exact At.own' (i := 0) rfl rfl | exact At.own' (i := 1) rfl rfl | exact At.own' (i := 2) rfl rfl | exact At.own' (i := 3) rfl rfl | exact At.own' (i := 4) rfl rfl) rfl ?_
        refine TL.build hF rfl (r := .agg #[.int .i64 r.body[j].rel]) (fun w => by kernel_rfl) rfl ?_
        refine TL.move hF rfl rfl ?_
        refine TL.callV hF (within_fn r.body[j].rel rels) rfl rfl ?_
        refine TL.callE hF (must_fn _ 2) rfl rfl ?_ ?_
        · rintro _ _ ⟨hin, rfl⟩
          refine TL.nil ?_
          refine TQ.block_n ?_
          refine TQ.then_n ?_
          refine T.region ?_
          refine TL.add hF rfl rfl (by omega) (by omega) rfl ?_
          refine TL.move hF rfl rfl ?_
          refine TL.nil ?_
          refine TQ.pop ?_
          refine TQ.round (j + 1) ⟨by omega, by rw [hjs, drop_step (by omega), atomsOk]; simp [hin]⟩ (by omega) ⟨rfl, rfl, rfl, rfl, rfl, rfl, trivial⟩ rfl
        · rintro _ _ ⟨hin, rfl, rfl⟩
          refine TQ.block_p ?_
          refine TQ.then_p ?_
          refine TQ.then_p ?_
          refine TQ.block_p ?_
          refine TQ.pop ?_
          refine TQ.pop ?_
          have e : checkR rels r = 2 := by
            have h1 : atomsOk rels r.body = false := by rw [hjs, drop_step (by omega), atomsOk]; simp [hin]
            simp [checkR, h6', hi, h1]
          exact TQ.panicE (by rw [e]; exact ⟨by decide, rfl, rfl⟩)
      · refine T.exit ?_
        refine TQ.then_x ?_
        refine TQ.then_x ?_
        refine TQ.block_x ?_
        refine TQ.norm ?_
        refine TQ.pop ?_
        refine TQ.retsE [] _ rfl rfl rfl ?_
        have h1 : atomsOk rels r.body = true := by rw [hjs, List.drop_of_length_le (by omega)]; rfl
        exact ⟨by simp [checkR, h6', hi, h1], rfl⟩
    · rintro _ _ ⟨hi, rfl, rfl⟩
      refine TQ.then_p ?_
      refine TQ.pop ?_
      exact TQ.panicE (by have e : checkR rels r = 2 := by simp [checkR, h6', hi]
                          rw [e]; exact ⟨by decide, rfl, rfl⟩)
  · rintro _ _ ⟨h6, rfl, rfl⟩
    have h6' : 6 < r.body.length := by have := of_decide_eq_false h6; omega
    refine TQ.then_p ?_
    refine TQ.pop ?_
    exact TQ.panicE (by have e : checkR rels r = 3 := by simp [checkR, h6']
                        rw [e]; exact ⟨by decide, rfl, rfl⟩)
/-- The uses of the first rules, and of the first atoms of the next one. -/
def usesP (rs : List RuleD) (i j : Nat) (a b : Int) (dn : Bool) : Bool := uses a b dn (rs.take i) || (match rs[i]? with | some r => decide (r.head = a) && usesA b dn (r.body.take j) | none => false)
theorem uses_append (a b : Int) (dn : Bool) : ∀ (xs ys : List RuleD), uses a b dn (xs ++ ys) = (uses a b dn xs || uses a b dn ys)
  | [], ys => by simp [uses]
  | x :: xs, ys => by simp [uses, uses_append a b dn xs ys, Bool.or_assoc]
theorem usesA_append (b : Int) (dn : Bool) : ∀ (xs ys : List AtomD), usesA b dn (xs ++ ys) = (usesA b dn xs || usesA b dn ys)
  | [], ys => by simp [usesA]
  | x :: xs, ys => by simp [usesA, usesA_append b dn xs ys, Bool.or_assoc]
theorem usesP_zero (rs : List RuleD) (i : Nat) : usesP rs i 0 = fun a b dn => uses a b dn (rs.take i) := by
  funext a b dn; unfold usesP; cases rs[i]? <;> simp [usesA]
theorem usesP_full {rs : List RuleD} {i : Nat} (hi : i < rs.length) : usesP rs i rs[i].body.length = fun a b dn => uses a b dn (rs.take (i + 1)) := by
  funext a b dn
  unfold usesP
  rw [List.getElem?_eq_getElem hi, List.take_succ_eq_append_getElem hi, uses_append]
  simp [uses]
theorem usesP_succ {rs : List RuleD} {i j : Nat} (hi : i < rs.length) (hj : j < rs[i].body.length) (a b : Int) (dn : Bool) : usesP rs i (j + 1) a b dn = (usesP rs i j a b dn || (decide (rs[i].head = a) && hit b dn rs[i].body[j])) := by
  unfold usesP
  rw [List.getElem?_eq_getElem hi]
  simp only
  rw [List.take_succ_eq_append_getElem hj, usesA_append]
  simp only [usesA, Bool.or_false, Bool.and_or_distrib_left, Bool.or_assoc]
theorem usesA_le {b : Int} : ∀ {xs : List AtomD}, usesA b true xs = true → usesA b false xs = true
  | [], h => by simp [usesA] at h
  | x :: xs, h => by
    simp only [usesA, hit, Bool.or_eq_true, Bool.and_eq_true] at h ⊢
    rcases h with ⟨h1, h2⟩ | h
    · exact .inl ⟨h1, by simp⟩
    · exact .inr (usesA_le h)
theorem uses_le {a b : Int} : ∀ {xs : List RuleD}, uses a b true xs = true → uses a b false xs = true
  | [], h => by simp [uses] at h
  | x :: xs, h => by
    simp only [uses, Bool.or_eq_true, Bool.and_eq_true] at h ⊢
    rcases h with ⟨h1, h2⟩ | h
    · exact .inl ⟨h1, usesA_le h2⟩
    · exact .inr (uses_le h)
theorem usesP_le {rs : List RuleD} {i j : Nat} {a b : Int} (h : usesP rs i j a b true = true) : usesP rs i j a b false = true := by
  unfold usesP at h ⊢
  simp only [Bool.or_eq_true] at h ⊢
  rcases h with h | h
  · exact .inl (uses_le h)
  · right
    cases hr : rs[i]? with
    | none => simp [hr] at h
    | some r => simp only [hr, Bool.and_eq_true] at h ⊢; exact ⟨h.1, usesA_le h.2⟩
theorem WOk.put {U : Int → Int → Bool → Bool} {m : List ((Int × Int) × Bool)} (h : WOk U m) (hU : ∀ a b, U a b true = true → U a b false = true) (p q : Int) (neg : Bool) {U' : Int → Int → Bool → Bool} (hU' : ∀ a b dn, U' a b dn = (U a b dn || (decide (p = a) && (decide (q = b) && (neg || !dn))))) :
    WOk U' (mput (p, q) ((mget (p, q) m).getD false || neg) m) := by
  intro a b
  rw [mget_mput, hU', hU', h a b, h p q]
  by_cases e : (a, b) = (p, q)
  · cases e
    have := hU p q
    revert this
    cases U p q false <;> cases U p q true <;> cases neg <;> simp
  · rw [if_neg e]
    have e2 : (decide (p = a) && (decide (q = b) && (neg || !false))) = false := by
      rw [Bool.eq_false_iff]; intro h; simp at h; exact e (by rw [h.1, h.2])
    have e3 : (decide (p = a) && (decide (q = b) && (neg || !true))) = false := by
      rw [Bool.eq_false_iff]; intro h; simp at h; exact e (by rw [h.1, h.2.1])
    rw [e2, e3]; simp
theorem checkR_body {rels : Int} {r : RuleD} (h : checkR rels r = 0) : r.body.length ≤ 6 := by
  unfold checkR at h; split at h; · omega
  omega
theorem errs_drop {rels : Int} {rs : List RuleD} {k : Nat} (hk : k < rs.length) : errs rels (rs.drop k) = if checkR rels rs[k] = 0 then errs rels (rs.drop (k + 1)) else checkR rels rs[k] := by rw [drop_step hk, errs]

set_option maxHeartbeats 2000000 in
theorem opened_fn {p : Option Addr} {rs : List RuleD} {c : Nat} (rels : Int) (hr : Rules S w0 [] p rs) (hl : rs.length < 2 ^ 63) (hbl : ∀ r ∈ rs, r.body.length < 2 ^ 63) :
    RtE Try.prog 26 [.int .i64 rels, .slice p rs.length c].toArray S w0 η (fun v η' => check rels rs = 0 ∧ ∃ bw bm es clock m, v = .pointer (some ⟨bw, 0, none⟩) ∧ η' = wseg bw bm rels :: [(bm, .map es clock)] :: η ∧ MObj KU Value.bool m es clock ∧ WOk (fun a b dn => uses a b dn rs) m) (fun ch η' => check rels rs ≠ 0 ∧ ch = stopV (check rels rs) ∧ η' = η) := by
  have hF := open_wide
  refine RtE.of (fn := Try.f26) Try.func26 rfl rfl ?_
  refine T.seq ?_
  refine T.region ?_
  refine TL.assign hF rfl rfl ?_
  refine TL.nil ?_
  refine TQ.then_n ?_
  refine T.seq ?_
  refine T.region ?_
  refine TL.move hF rfl rfl ?_
  refine TL.bin hF rfl rfl rfl rfl ?_
  refine TL.move hF rfl rfl ?_
  refine TL.gd (t := 14) rfl (fun g1_14 => ?_) (fun g1_14 => ?_)
  · refine TL.on rfl rfl rfl (decide_eq_true g1_14) ?_
    refine TL.move hF rfl rfl ?_
    refine TL.on rfl rfl rfl (decide_eq_true g1_14) ?_
    refine TL.bin hF rfl rfl rfl rfl ?_
    refine TL.pickT hF rfl (decide_eq_true g1_14) rfl rfl ?_
    refine TL.callM hF (must_fn _ 1) rfl rfl (fun h1 v18 => ?_) (fun h1 => ?_)
    · have hk1 : 1 ≤ rels ∧ rels ≤ 48 := by simp_all
      refine TL.nil ?_
      refine TQ.then_n ?_
      refine T.seq ?_
      refine T.region ?_
      refine TL.move hF rfl rfl ?_
      refine TL.len hF rfl rfl ?_
      refine TL.bin hF rfl rfl rfl rfl ?_
      refine TL.callM hF (must_fn _ 3) rfl rfl (fun h1 v22 => ?_) (fun h1 => ?_)
      · have hk2 : ¬ 60 < rs.length := by have := of_decide_eq_true h1; omega
        refine TL.nil ?_
        refine TQ.then_n ?_
        refine T.seq ?_
        refine T.region ?_
        refine TL.move hF rfl rfl ?_
        refine TL.makeMap hF rfl (fun b24 => ?_)
        refine TL.build hF rfl (r := .agg #[.int .i64 rels, .map (some b24)]) (fun w => by kernel_rfl) rfl ?_
        refine TL.box hF rfl rfl (fun b26 => ?_)
        refine TL.assign hF rfl rfl ?_
        refine TL.nil ?_
        refine TQ.then_n ?_
        refine T.seq ?_
        refine T.seq ?_
        refine T.region ?_
        refine TL.move hF rfl rfl ?_
        refine TL.len hF rfl rfl ?_
        refine TL.move hF rfl rfl ?_
        refine TL.nil ?_
        refine TQ.then_n ?_
        refine T.block ?_
        have hck : check rels rs = errs rels rs := by unfold check; rw [if_neg (by omega), if_neg (by omega), if_neg hk2]
        refine T.loop (ι := Nat × Array MapEntry × Nat × List ((Int × Int) × Bool)) (fun i => i.1 ≤ rs.length ∧ errs rels rs = errs rels (rs.drop i.1) ∧ MObj KU Value.bool i.2.2.2 i.2.1 i.2.2.1 ∧ WOk (fun a b dn => uses a b dn (rs.take i.1)) i.2.2.2) (fun i => [(0, .int .i64 rels), (1, .slice p rs.length c), (5, .pointer (some ⟨b26, 0, none⟩)), (27, .slice p rs.length c), (28, .int .i64 (rs.length : Int)), (29, .int .i64 (i.1 : Int))]) (fun i => wseg b26 b24 rels :: [(b24, .map i.2.1 i.2.2.1)] :: η) (fun i => rs.length - i.1) (0, #[], 0, []) ⟨Nat.zero_le _, by simp, MObj.nil _ _, fun a b => by simp [uses, mget]⟩ ⟨rfl, rfl, rfl, rfl, rfl, rfl, trivial⟩ rfl ?_
        rintro ⟨i, es, clock, m⟩ ⟨hi, he, hm, hw⟩
        simp only at hi he hm hw
        refine T.seq ?_
        refine T.region ?_
        refine TL.bin hF rfl rfl rfl rfl ?_
        refine TL.nil ?_
        refine TQ.then_n ?_
        refine T.seq ?_
        first | refine T.cond_d rfl (fun ht30 => ?_) (fun ht30 => ?_) | refine T.cond _ rfl (fun ht30 => ?_) (fun ht30 => ?_)
        · refine T.skip ?_
          refine TQ.then_n ?_
          refine T.seq ?_
          refine T.block ?_
          refine T.seq ?_
          refine T.region ?_
          refine TL.indexAddr hF rfl rfl (hr.ad (by omega)) (by omega) (by omega) rfl ?_
          refine TL.loadA hF (rs[i]'(by omega)).cells rfl rfl (hr.ro.atA (i := i) (by omega)) rfl ?_
          refine TL.alloc hF rfl (fun b7 => ?_)
          refine TL.storeAI hF (rs[i]'(by omega)).cells 0 rfl rfl rfl rfl (by simp [RuleD.cells, Value.oneCell']) (by simp [Value.cells, cells_len]) ?_
          refine TL.nil ?_
          refine TQ.then_n ?_
          refine T.seq ?_
          refine T.region ?_
          refine TL.fieldAddr hF rfl rfl ?_
          refine TL.load hF rfl (by first | exact At.own' (i := 0) rfl rfl | exact At.own' (i := 1) rfl rfl | exact At.own' (i := 2) rfl rfl | exact At.own' (i := 3) rfl rfl | exact At.own' (i := 4) rfl rfl) rfl ?_
          refine TL.build hF rfl (r := .agg #[.int .i64 (rs[i]'(by omega)).head]) (fun w => by kernel_rfl) rfl ?_
          refine TL.fieldAddr hF rfl rfl ?_
          refine TL.fieldAddr hF rfl rfl ?_
          refine TL.load hF rfl (by first | exact At.own' (i := 0) rfl rfl | exact At.own' (i := 1) rfl rfl | exact At.own' (i := 2) rfl rfl | exact At.own' (i := 3) rfl rfl | exact At.own' (i := 4) rfl rfl) rfl ?_
          refine TL.build hF rfl (r := WV (rs[i]'(by omega))) (fun w => by kernel_rfl) rfl ?_
          refine TL.makeInterfaceR hF rfl (r := .iface 103 (WV (rs[i]'(by omega)))) (fun w => by kernel_rfl) rfl ?_
          refine TL.assign hF rfl rfl ?_
          refine TL.nil ?_
          refine TQ.then_n ?_
          refine T.seq ?_
          refine T.region ?_
          refine TL.move hF rfl rfl ?_
          refine TL.move hF rfl rfl ?_
          have hil : i < rs.length := by omega
          have hbr := hr.body rs[i] (List.getElem_mem _)
          refine TL.invokeM hF rfl rfl (g := 88) (rcv := WV rs[i]) (fun w => by kernel_rfl) (clear_fn rels hbr (hbl _ (List.getElem_mem _))) rfl (fun hc0 v43 => ?_) (fun hc0 => ?_)
          · 
            refine TL.nil ?_
            refine TQ.then_n ?_
            refine T.seq ?_
            refine T.region ?_
            refine TL.fieldAddr hF rfl rfl ?_
            refine TL.fieldAddr hF rfl rfl ?_
            refine TL.load hF rfl (by first | exact At.own' (i := 0) rfl rfl | exact At.own' (i := 1) rfl rfl | exact At.own' (i := 2) rfl rfl | exact At.own' (i := 3) rfl rfl | exact At.own' (i := 4) rfl rfl) rfl ?_
            refine TL.len hF rfl rfl ?_
            refine TL.move hF rfl rfl ?_
            refine TL.nil ?_
            refine TQ.then_n ?_
            refine T.block ?_
            have hbody := checkR_body hc0
            refine T.hsub ([(b7, .cells (rs[i].cells.toArray) 53 (0, 0))] :: wseg b26 b24 rels :: [(b24, .map es clock)] :: η) (List.Sublist.refl _) ?_
            refine T.loop (ι := Nat × Array MapEntry × Nat × List ((Int × Int) × Bool)) (fun j => j.1 ≤ rs[i].body.length ∧ MObj KU Value.bool j.2.2.2 j.2.1 j.2.2.1 ∧ WOk (usesP rs i j.1) j.2.2.2) (fun j => [(0, .int .i64 rels), (1, .slice p rs.length c), (5, .pointer (some ⟨b26, 0, none⟩)), (27, .slice p rs.length c), (28, .int .i64 (rs.length : Int)), (29, .int .i64 (i : Int)), (7, .pointer (some ⟨b7, 0, none⟩)), (46, .slice rs[i].ba rs[i].body.length rs[i].bc), (47, .int .i64 (rs[i].body.length : Int)), (48, .int .i64 (j.1 : Int))]) (fun j => [(b7, .cells (rs[i].cells.toArray) 53 (0, 0))] :: wseg b26 b24 rels :: [(b24, .map j.2.1 j.2.2.1)] :: η) (fun j => rs[i].body.length - j.1) (0, es, clock, m) ⟨Nat.zero_le _, hm, by rw [usesP_zero]; exact hw⟩ ⟨rfl, rfl, rfl, rfl, rfl, rfl, rfl, rfl, rfl, rfl, trivial⟩ rfl ?_
            rintro ⟨j, es, clock, m⟩ ⟨hj, hm, hw⟩
            simp only at hj hm hw
            refine T.seq ?_
            refine T.region ?_
            refine TL.bin hF rfl rfl rfl rfl ?_
            refine TL.nil ?_
            refine TQ.then_n ?_
            refine T.seq ?_
            first | refine T.cond_d rfl (fun ht49 => ?_) (fun ht49 => ?_) | refine T.cond _ rfl (fun ht49 => ?_) (fun ht49 => ?_)
            · refine T.skip ?_
              refine TQ.then_n ?_
              refine T.seq ?_
              refine T.block ?_
              refine T.seq ?_
              refine T.region ?_
              refine TL.indexAddr hF rfl rfl (bodyAd hbr (j := j) (by omega)) (by omega) (by omega) rfl ?_
              refine TL.loadA hF rs[i].body[j].cells rfl rfl (bodyA hbr (j := j) (by omega)) rfl ?_
              refine TL.alloc hF rfl (fun b10 => ?_)
              refine TL.storeAI hF rs[i].body[j].cells 0 rfl rfl rfl rfl (by simp [AtomD.cells, Value.oneCell']) (by simp [Value.cells, acells_len]) ?_
              refine TL.nil ?_
              refine TQ.then_n ?_
              refine T.seq ?_
              refine T.region ?_
              refine TL.fieldAddr hF rfl rfl ?_
              refine TL.load hF rfl (by first | exact At.own' (i := 0) rfl rfl | exact At.own' (i := 1) rfl rfl | exact At.own' (i := 2) rfl rfl | exact At.own' (i := 3) rfl rfl | exact At.own' (i := 4) rfl rfl) rfl ?_
              refine TL.fieldAddr hF rfl rfl ?_
              refine TL.load hF rfl (by first | exact At.own' (i := 0) rfl rfl | exact At.own' (i := 1) rfl rfl | exact At.own' (i := 2) rfl rfl | exact At.own' (i := 3) rfl rfl | exact At.own' (i := 4) rfl rfl) rfl ?_
              refine TL.build hF rfl (r := KU (rs[i].head, rs[i].body[j].rel)) (fun w => by kernel_rfl) rfl ?_
              refine TL.alloc hF rfl (fun b11 => ?_)
              refine TL.storeAI hF [.int .i64 rs[i].head, .int .i64 rs[i].body[j].rel] 0 rfl rfl rfl rfl (by simp [Value.oneCell']) (by simp [Value.cells]) ?_
              refine TL.nil ?_
              refine TQ.then_n ?_
              cases hc : (mget (rs[i].head, rs[i].body[j].rel) m).getD false
              · refine T.draw ?_
                refine DR.stepV [_] rfl [(5, _, none)] rfl rfl ⟨⟨rfl, by kernel_rfl⟩, trivial⟩ (fun ext => TL.move hF rfl rfl TL.fin) ?_
                refine DR.stepV [_, _] rfl [(57, _, some 0)] rfl rfl ⟨⟨rfl, rfl, rfl⟩, trivial⟩ (fun ext => TL.nilCheck hF rfl rfl TL.fin) ?_
                refine DR.stepV [_, _, _] rfl [(58, _, some 1)] rfl rfl ⟨⟨rfl, rfl, rfl⟩, trivial⟩ (fun ext => TL.fieldAddr hF rfl rfl TL.fin) ?_
                refine DR.stepV [_, _, _, _] rfl [(59, _, some 2)] rfl rfl ⟨⟨rfl, rfl, rfl⟩, trivial⟩ (fun ext => TL.load hF rfl (by first | exact At.own' (i := 0) rfl rfl | exact At.own' (i := 1) rfl rfl | exact At.own' (i := 2) rfl rfl | exact At.own' (i := 3) rfl rfl | exact At.own' (i := 4) rfl rfl) rfl TL.fin) ?_
                refine DR.stepV [_, _, _, _, _] rfl [(11, _, none)] rfl rfl ⟨⟨rfl, by kernel_rfl⟩, trivial⟩ (fun ext => TL.loadA hF [.int .i64 rs[i].head, .int .i64 rs[i].body[j].rel] rfl rfl (own_list (i := 0) rfl) rfl TL.fin) ?_
                refine DR.stepV [_, _, _, _, _, _] rfl [(5, _, none)] rfl rfl ⟨⟨rfl, by kernel_rfl⟩, trivial⟩ (fun ext => TL.move hF rfl rfl TL.fin) ?_
                refine DR.stepV [_, _, _, _, _, _, _] rfl [(62, _, some 5)] rfl rfl ⟨⟨rfl, rfl, rfl⟩, trivial⟩ (fun ext => TL.nilCheck hF rfl rfl TL.fin) ?_
                refine DR.stepV [_, _, _, _, _, _, _, _] rfl [(63, _, some 6)] rfl rfl ⟨⟨rfl, rfl, rfl⟩, trivial⟩ (fun ext => TL.fieldAddr hF rfl rfl TL.fin) ?_
                refine DR.stepV [_, _, _, _, _, _, _, _, _] rfl [(64, _, some 7)] rfl rfl ⟨⟨rfl, rfl, rfl⟩, trivial⟩ (fun ext => TL.load hF rfl (by first | exact At.own' (i := 0) rfl rfl | exact At.own' (i := 1) rfl rfl | exact At.own' (i := 2) rfl rfl | exact At.own' (i := 3) rfl rfl | exact At.own' (i := 4) rfl rfl) rfl TL.fin) ?_
                refine DR.stepV [_, _, _, _, _, _, _, _, _, _] rfl [(11, _, none)] rfl rfl ⟨⟨rfl, by kernel_rfl⟩, trivial⟩ (fun ext => TL.loadA hF [.int .i64 rs[i].head, .int .i64 rs[i].body[j].rel] rfl rfl (own_list (i := 0) rfl) rfl TL.fin) ?_
                refine DR.stepV [_, _, _, _, _, _, _, _, _, _, _] rfl [(65, _, some 8), (66, _, some 9)] rfl rfl ⟨⟨rfl, rfl, rfl⟩, ⟨rfl, rfl, rfl⟩, trivial⟩ (fun ext => TL.lookupB hF (K := KU) (rs[i].head, rs[i].body[j].rel) rfl rfl (by simp) hm rfl TL.fin) ?_
                refine DR.stepV [_, _, _, _, _, _, _, _, _, _, _, _] rfl [(67, _, some 10)] rfl rfl ⟨⟨rfl, rfl, rfl⟩, trivial⟩ (fun ext => TL.move hF rfl rfl TL.fin) ?_
                refine DR.stepV [_, _, _, _, _, _, _, _, _, _, _, _, _] rfl [(10, _, none), (68, _, some 11)] rfl rfl ⟨⟨rfl, by kernel_rfl⟩, ⟨rfl, rfl, rfl⟩, trivial⟩ (fun ext => TL.on rfl rfl rfl hc <| TL.fieldAddr hF rfl rfl TL.fin) ?_
                refine DR.stepV [_, _, _, _, _, _, _, _, _, _, _, _, _, _] rfl [(69, _, some 12), (68, _, some 11)] rfl rfl ⟨⟨rfl, rfl, rfl⟩, ⟨rfl, rfl, rfl⟩, trivial⟩ (fun ext => TL.on rfl rfl rfl hc <| TL.load hF rfl (by first | exact At.own' (i := 0) rfl rfl | exact At.own' (i := 1) rfl rfl | exact At.own' (i := 2) rfl rfl | exact At.own' (i := 3) rfl rfl | exact At.own' (i := 4) rfl rfl) rfl TL.fin) ?_
                refine DR.stepV [_, _, _, _, _, _, _, _, _, _, _, _, _, _, _] rfl [(68, _, some 11), (70, _, some 13)] rfl rfl ⟨⟨rfl, rfl, rfl⟩, ⟨rfl, rfl, rfl⟩, trivial⟩ (fun ext => TL.pickF hF rfl hc rfl rfl TL.fin) ?_
                refine DR.done [(71, _), (70, _), (69, _), (68, _), (67, _), (66, _), (65, _), (64, _), (63, _), (62, _), (61, _), (60, _), (59, _), (58, _), (57, _)] [_] mixed (by kernel_rfl) (by kernel_rfl) (by kernel_rfl) rfl rfl ?_
                refine TL.mapUpdate hF 4 Value.bool (K := KU) (rs[i].head, rs[i].body[j].rel) rs[i].body[j].neg rfl rfl rfl rfl hm (fun es2 clock2 hm2 => ?_)
                refine TL.nil ?_
                refine TQ.block_n ?_
                refine TQ.then_n ?_
                refine T.region ?_
                refine TL.add hF rfl rfl (by omega) (by omega) rfl ?_
                refine TL.move hF rfl rfl ?_
                refine TL.nil ?_
                refine TQ.pop ?_
                refine TQ.pop ?_
                refine TQ.round (j + 1, es2, clock2, mput (rs[i].head, rs[i].body[j].rel) rs[i].body[j].neg m) ⟨by simp only; omega, hm2, ?_⟩ (by simp only; omega) ⟨rfl, rfl, rfl, rfl, rfl, rfl, rfl, rfl, rfl, rfl, trivial⟩ rfl
                have h3 := hw.put (fun a b h => usesP_le h) rs[i].head rs[i].body[j].rel rs[i].body[j].neg (fun a b dn => usesP_succ hil (by omega) a b dn)
                rw [hc] at h3; simpa using h3
              · refine T.draw ?_
                refine DR.stepV [_] rfl [(5, _, none)] rfl rfl ⟨⟨rfl, by kernel_rfl⟩, trivial⟩ (fun ext => TL.move hF rfl rfl TL.fin) ?_
                refine DR.stepV [_, _] rfl [(57, _, some 0)] rfl rfl ⟨⟨rfl, rfl, rfl⟩, trivial⟩ (fun ext => TL.nilCheck hF rfl rfl TL.fin) ?_
                refine DR.stepV [_, _, _] rfl [(58, _, some 1)] rfl rfl ⟨⟨rfl, rfl, rfl⟩, trivial⟩ (fun ext => TL.fieldAddr hF rfl rfl TL.fin) ?_
                refine DR.stepV [_, _, _, _] rfl [(59, _, some 2)] rfl rfl ⟨⟨rfl, rfl, rfl⟩, trivial⟩ (fun ext => TL.load hF rfl (by first | exact At.own' (i := 0) rfl rfl | exact At.own' (i := 1) rfl rfl | exact At.own' (i := 2) rfl rfl | exact At.own' (i := 3) rfl rfl | exact At.own' (i := 4) rfl rfl) rfl TL.fin) ?_
                refine DR.stepV [_, _, _, _, _] rfl [(11, _, none)] rfl rfl ⟨⟨rfl, by kernel_rfl⟩, trivial⟩ (fun ext => TL.loadA hF [.int .i64 rs[i].head, .int .i64 rs[i].body[j].rel] rfl rfl (own_list (i := 0) rfl) rfl TL.fin) ?_
                refine DR.stepV [_, _, _, _, _, _] rfl [(5, _, none)] rfl rfl ⟨⟨rfl, by kernel_rfl⟩, trivial⟩ (fun ext => TL.move hF rfl rfl TL.fin) ?_
                refine DR.stepV [_, _, _, _, _, _, _] rfl [(62, _, some 5)] rfl rfl ⟨⟨rfl, rfl, rfl⟩, trivial⟩ (fun ext => TL.nilCheck hF rfl rfl TL.fin) ?_
                refine DR.stepV [_, _, _, _, _, _, _, _] rfl [(63, _, some 6)] rfl rfl ⟨⟨rfl, rfl, rfl⟩, trivial⟩ (fun ext => TL.fieldAddr hF rfl rfl TL.fin) ?_
                refine DR.stepV [_, _, _, _, _, _, _, _, _] rfl [(64, _, some 7)] rfl rfl ⟨⟨rfl, rfl, rfl⟩, trivial⟩ (fun ext => TL.load hF rfl (by first | exact At.own' (i := 0) rfl rfl | exact At.own' (i := 1) rfl rfl | exact At.own' (i := 2) rfl rfl | exact At.own' (i := 3) rfl rfl | exact At.own' (i := 4) rfl rfl) rfl TL.fin) ?_
                refine DR.stepV [_, _, _, _, _, _, _, _, _, _] rfl [(11, _, none)] rfl rfl ⟨⟨rfl, by kernel_rfl⟩, trivial⟩ (fun ext => TL.loadA hF [.int .i64 rs[i].head, .int .i64 rs[i].body[j].rel] rfl rfl (own_list (i := 0) rfl) rfl TL.fin) ?_
                refine DR.stepV [_, _, _, _, _, _, _, _, _, _, _] rfl [(65, _, some 8), (66, _, some 9)] rfl rfl ⟨⟨rfl, rfl, rfl⟩, ⟨rfl, rfl, rfl⟩, trivial⟩ (fun ext => TL.lookupB hF (K := KU) (rs[i].head, rs[i].body[j].rel) rfl rfl (by simp) hm rfl TL.fin) ?_
                refine DR.stepV [_, _, _, _, _, _, _, _, _, _, _, _] rfl [(67, _, some 10)] rfl rfl ⟨⟨rfl, rfl, rfl⟩, trivial⟩ (fun ext => TL.move hF rfl rfl TL.fin) ?_
                refine DR.stepV [_, _, _, _, _, _, _, _, _, _, _, _, _] rfl [(10, _, none), (68, _, some 11)] rfl rfl ⟨⟨rfl, by kernel_rfl⟩, ⟨rfl, rfl, rfl⟩, trivial⟩ (fun ext => TL.off hF rfl rfl rfl hc rfl TL.fin) ?_
                refine DR.stepV [_, _, _, _, _, _, _, _, _, _, _, _, _, _] rfl [(69, _, some 12), (68, _, some 11)] rfl rfl ⟨⟨rfl, rfl, rfl⟩, ⟨rfl, rfl, rfl⟩, trivial⟩ (fun ext => TL.off hF rfl rfl rfl hc rfl TL.fin) ?_
                refine DR.stepV [_, _, _, _, _, _, _, _, _, _, _, _, _, _, _] rfl [(68, _, some 11), (70, _, some 13)] rfl rfl ⟨⟨rfl, rfl, rfl⟩, ⟨rfl, rfl, rfl⟩, trivial⟩ (fun ext => TL.pickT hF rfl hc rfl rfl TL.fin) ?_
                refine DR.done [(71, _), (70, _), (69, _), (68, _), (67, _), (66, _), (65, _), (64, _), (63, _), (62, _), (61, _), (60, _), (59, _), (58, _), (57, _)] [_] mixed (by kernel_rfl) (by kernel_rfl) (by kernel_rfl) rfl rfl ?_
                refine TL.mapUpdate hF 4 Value.bool (K := KU) (rs[i].head, rs[i].body[j].rel) true rfl rfl rfl rfl hm (fun es2 clock2 hm2 => ?_)
                refine TL.nil ?_
                refine TQ.block_n ?_
                refine TQ.then_n ?_
                refine T.region ?_
                refine TL.add hF rfl rfl (by omega) (by omega) rfl ?_
                refine TL.move hF rfl rfl ?_
                refine TL.nil ?_
                refine TQ.pop ?_
                refine TQ.pop ?_
                refine TQ.round (j + 1, es2, clock2, mput (rs[i].head, rs[i].body[j].rel) true m) ⟨by simp only; omega, hm2, ?_⟩ (by simp only; omega) ⟨rfl, rfl, rfl, rfl, rfl, rfl, rfl, rfl, rfl, rfl, trivial⟩ rfl
                have h3 := hw.put (fun a b h => usesP_le h) rs[i].head rs[i].body[j].rel rs[i].body[j].neg (fun a b dn => usesP_succ hil (by omega) a b dn)
                rw [hc] at h3; simpa using h3
            · refine T.exit ?_
              refine TQ.then_x ?_
              refine TQ.then_x ?_
              refine TQ.block_x ?_
              refine TQ.block_n ?_
              refine TQ.then_n ?_
              refine T.region ?_
              refine TL.add hF rfl rfl (by omega) (by omega) rfl ?_
              refine TL.move hF rfl rfl ?_
              refine TL.nil ?_
              have hjl : j = rs[i].body.length := by omega
              subst hjl
              refine TQ.pop ?_
              exact TQ.round (i + 1, es, clock, m) ⟨by simp only; omega, by rw [he, errs_drop hil, if_pos hc0], hm, by rw [usesP_full hil] at hw; exact hw⟩ (by simp only; omega) ⟨rfl, rfl, rfl, rfl, rfl, rfl, trivial⟩ rfl
          · skip
            refine TQ.then_p ?_
            refine TQ.block_p ?_
            refine TQ.then_p ?_
            refine TQ.then_p ?_
            refine TQ.block_p ?_
            refine TQ.then_p ?_
            refine TQ.hsub η (List.Sublist.cons _ (List.Sublist.cons _ (List.Sublist.cons _ (List.Sublist.refl _)))) ?_
            have e : check rels rs = checkR rels rs[i] := by rw [hck, he, errs_drop hil, if_neg hc0]
            exact TQ.panicE (by rw [e]; exact ⟨hc0, rfl, rfl⟩)
        · refine T.exit ?_
          refine TQ.then_x ?_
          refine TQ.then_x ?_
          refine TQ.block_x ?_
          refine TQ.then_n ?_
          refine T.seq ?_
          refine T.region ?_
          refine TL.move hF rfl rfl ?_
          refine TL.assign hF rfl rfl ?_
          refine TL.nil ?_
          refine TQ.then_n ?_
          refine T.ret ?_
          refine TQ.retsE [4] _ rfl rfl rfl ?_
          have hil : i = rs.length := by omega
          subst hil
          rw [List.take_length] at hw
          exact ⟨by rw [hck, he, List.drop_of_length_le (by omega)]; rfl, b26, b24, es, clock, m, rfl, rfl, hm, hw⟩
      · have hk2 : 60 < rs.length := by have := of_decide_eq_false h1; omega
        refine TQ.then_p ?_
        have e : check rels rs = 3 := by unfold check; rw [if_neg (by omega), if_neg (by omega), if_pos hk2]
        exact TQ.panicE (by rw [e]; exact ⟨by decide, rfl, rfl⟩)
    · have hk1 : 48 < rels := by simp_all
      refine TQ.then_p ?_
      have e : check rels rs = 1 := by unfold check; rw [if_neg (by omega), if_pos hk1]
      exact TQ.panicE (by rw [e]; exact ⟨by decide, rfl, rfl⟩)
  · refine TL.off hF rfl rfl rfl (decide_eq_false g1_14) rfl ?_
    refine TL.off hF rfl rfl rfl (decide_eq_false g1_14) rfl ?_
    refine TL.pickF hF rfl (decide_eq_false g1_14) rfl rfl ?_
    refine TL.callM hF (must_fn _ 1) rfl rfl (fun h1 v18 => by cases h1) (fun h1 => ?_)
    refine TQ.then_p ?_
    have e : check rels rs = 1 := by unfold check; rw [if_pos (by omega)]
    exact TQ.panicE (by rw [e]; exact ⟨by decide, rfl, rfl⟩)
end Go.Proofs.Ytdehpaikapbckaa
/- The program's kinds of uses, and what goes through them. -/
namespace Go.Proofs.Ytdehpaikapbckaa
open Go.Sl
variable {S : Nat → Prop} {w0 : World} {η : Heap}
abbrev fnV (g : Nat) : Value := .func (.func g) #[] #[]
abbrev ptr (b : Nat) : Value := .pointer (some ⟨b, 0, none⟩)
set_option maxHeartbeats 2000000 in
theorem all_fn  :
    Rt Try.prog 36 ([] : List Value).toArray S w0 η (fun v η' => v = .agg #[fnV 60, fnV 61] ∧ η' = η) := by
  have hF := open_wide
  refine Rt.of (fn := Try.f36) Try.func36 rfl rfl ?_
  refine T.seq ?_
  refine T.region ?_
  refine TL.alloc hF rfl (fun b0 => ?_)
  refine TL.nil ?_
  refine TQ.then_n ?_
  refine T.seq ?_
  refine T.region ?_
  refine TL.build hF rfl (r := .agg #[fnV 60]) (fun w => by kernel_rfl) rfl ?_
  refine TL.build hF rfl (r := .agg #[fnV 61]) (fun w => by kernel_rfl) rfl ?_
  refine TL.build hF rfl (r := .agg #[fnV 60, fnV 61]) (fun w => by kernel_rfl) rfl ?_
  refine TL.storeAI hF [fnV 60, fnV 61] 0 rfl rfl rfl rfl (by simp [Value.oneCell']) (by simp [Value.cells]) ?_
  refine TL.nil ?_
  refine TQ.then_n ?_
  refine T.ret ?_
  exact TQ.retC [fnV 60, fnV 61] η rfl rfl rfl (own_list (i := 0) rfl) (List.sublist_cons_self _ _) ⟨rfl, rfl⟩
set_option maxHeartbeats 2000000 in
theorem from_fn (wv : Value) (hwv : wv.cells = #[wv]) (r : Int) (g : Nat) :
    Rt Try.prog 35 [wv, .int .i64 r, .agg #[fnV g]].toArray S w0 η (fun v η' => ∃ b3 b4 b5, v = .func (.func 59) #[] #[ptr b3, ptr b5, ptr b4] ∧ η' = [(b5, .cells #[fnV g] 72 (0, 0))] :: [(b4, .cells #[.int .i64 r] 3 (0, 0))] :: [(b3, .cells #[wv] 59 (0, 0))] :: η) := by
  have hF := open_wide
  refine Rt.of (fn := Try.f35) Try.func35 rfl rfl ?_
  refine T.seq ?_
  refine T.region ?_
  refine TL.box hF rfl rfl (fun b3 => ?_)
  refine TL.box hF rfl rfl (fun b4 => ?_)
  refine TL.box hF rfl rfl (fun b5 => ?_)
  refine TL.assign hF rfl rfl ?_
  refine TL.nil ?_
  refine TQ.then_n ?_
  refine T.seq ?_
  refine T.region ?_
  refine TL.makeFunc hF rfl rfl rfl ?_
  refine TL.assign hF rfl rfl ?_
  refine TL.nil ?_
  refine TQ.then_n ?_
  refine T.ret ?_
  refine TQ.rets [6] _ rfl rfl rfl ?_
  exact ⟨b3, b4, b5, rfl, by rw [hwv]; rfl⟩
/-- A kind of uses: what its function answers. -/
def KindOk (g : Nat) (U : Int → Int → Bool → Bool) (dn : Bool) : Prop := ∀ (S : Nat → Prop) (w0 : World) (η : Heap) (bw : Nat) (n : Int) (m : List ((Int × Int) × Bool)), Web η bw n U m → ∀ a b : Int, Rt Try.prog g [ptr bw, KU (a, b)].toArray S w0 η (fun v η' => v = .bool (U a b dn) ∧ η' = η)
theorem kind_any (U : Int → Int → Bool → Bool) : KindOk 60 U false := fun _ _ _ _ _ _ hw a b => any_fn hw a b
theorem kind_denial (U : Int → Int → Bool → Bool) (hU : ∀ a b, U a b true = true → U a b false = true) : KindOk 61 U true := fun _ _ _ _ _ _ hw a b => denial_fn hw hU a b
def FromC (b3 b4 b5 bw : Nat) (r : Int) (g : Nat) (n : Int) (U : Int → Int → Bool → Bool) (m : List ((Int × Int) × Bool)) (η : Heap) : Prop :=
  [(b3, Obj.cells #[ptr bw] 59 (0, 0))] ∈ η ∧ [(b4, Obj.cells #[.int .i64 r] 3 (0, 0))] ∈ η ∧ [(b5, Obj.cells #[fnV g] 72 (0, 0))] ∈ η ∧ Web η bw n U m
theorem filter_enc {n k : Nat} {p : Nat → Bool} (hk : k < n) (hp : p k = true) : (((List.range n).filter p).map fun s : Nat => [Value.int .i64 (s : Int)])[((List.range k).filter p).length]? = some [.int .i64 (k : Int)] := by
  have e : List.range n = List.range k ++ (k :: List.range' (k + 1) (n - k - 1)) := by
    have e : n = k + (1 + (n - k - 1)) := by omega
    conv => lhs; rw [e, List.range_add]
    congr 1
    rw [show 1 + (n - k - 1) = (n - k - 1) + 1 by omega, List.range_succ_eq_map]
    simp [List.range'_eq_map_range, Nat.add_comm, Nat.add_left_comm, Function.comp_def]
  rw [e, List.filter_append, List.filter_cons, if_pos hp, List.map_append, List.getElem?_append_right (by simp)]
  simp
theorem filter_succ {k : Nat} {p : Nat → Bool} : ((List.range (k + 1)).filter p).length = ((List.range k).filter p).length + if p k = true then 1 else 0 := by
  rw [List.range_succ, List.filter_append, List.length_append]
  congr 1
  simp only [List.filter_cons, List.filter_nil]; split <;> simp

set_option maxHeartbeats 2000000 in
theorem from_iter {b3 b4 b5 bw : Nat} {r : Int} {g : Nat} [Ent Try.prog g] {n : Nat} {U : Int → Int → Bool → Bool} {dn : Bool} {m : List ((Int × Int) × Bool)} (hn : n ≤ 1000) (hk : KindOk g U dn) :
    Iter Try.prog 59 [] [ptr b3, ptr b5, ptr b4] (((List.range n).filter (fun s : Nat => U r s dn)).map fun s : Nat => [Value.int .i64 (s : Int)]) S w0 (FromC b3 b4 b5 bw r g n U m) := by
  intro l J X η hC hY h0
  have hF := open_wide
  refine Rt.of (fn := Try.f59) Try.func59 rfl rfl ?_
  refine T.scope ?_
  refine T.seq ?_
  refine T.label ?_
  refine TQ.then_n ?_
  refine T.seq ?_
  refine T.region ?_
  refine TL.load hF rfl (own_mem (hC _ _ h0).1 rfl) rfl ?_
  obtain ⟨bm, es, clock, hws, hwm, hwo⟩ := (hC _ _ h0).2.2.2.ex
  refine TL.nilCheck hF rfl rfl ?_
  refine TL.fieldAddr hF rfl rfl ?_
  refine TL.load hF rfl (own_mem hws rfl) rfl ?_
  refine TL.move hF rfl rfl ?_
  refine TL.nil ?_
  refine TQ.then_n ?_
  refine T.block ?_
  refine T.loop (ι := Nat × Heap) (fun i => i.1 ≤ n ∧ J ((List.range i.1).filter (fun s : Nat => U r s dn)).length i.2) (fun i => [(0, .func (.yield l) #[] #[]), (1, ptr b3), (2, ptr b5), (3, ptr b4), (9, .int .i64 (n : Int)), (10, .int .i64 (i.1 : Int))]) (fun i => i.2) (fun i => n - i.1) (0, η) ⟨Nat.zero_le _, h0⟩ ⟨rfl, rfl, rfl, rfl, rfl, rfl, trivial⟩ rfl ?_
  rintro ⟨k, η1⟩ ⟨hk1, hJ⟩
  simp only at hk1 hJ
  have hc1 := hC _ _ hJ
  refine T.seq ?_
  refine T.region ?_
  refine TL.bin hF rfl rfl rfl rfl ?_
  refine TL.nil ?_
  refine TQ.then_n ?_
  refine T.seq ?_
  first | refine T.cond_d rfl (fun ht11 => ?_) (fun ht11 => ?_) | refine T.cond _ rfl (fun ht11 => ?_) (fun ht11 => ?_)
  · refine T.skip ?_
    refine TQ.then_n ?_
    refine T.seq ?_
    refine T.block ?_
    refine T.seq ?_
    refine T.region ?_
    refine TL.move hF rfl rfl ?_
    refine TL.assign hF rfl rfl ?_
    refine TL.nil ?_
    refine TQ.then_n ?_
    refine T.seq ?_
    refine T.seq ?_
    refine T.region ?_
    refine TL.fieldAddr hF rfl rfl ?_
    refine TL.load hF rfl (own_mem hc1.2.2.1 rfl) rfl ?_
    refine TL.load hF rfl (own_mem hc1.1 rfl) rfl ?_
    refine TL.load hF rfl (own_mem hc1.2.1 rfl) rfl ?_
    refine TL.move hF rfl rfl ?_
    refine TL.build hF rfl (r := KU (r, k)) (fun w => by kernel_rfl) rfl ?_
    refine TL.callV hF (hk S w0 η1 bw n m hc1.2.2.2 r k) rfl rfl ?_
    refine TL.not hF rfl rfl ?_
    refine TL.nil ?_
    refine TQ.then_n ?_
    refine T.cond _ rfl (fun ht20 => ?_) (fun ht20 => ?_)
    · refine T.exit ?_
      refine TQ.then_x ?_
      refine TQ.block_x ?_
      refine TQ.then_n ?_
      refine T.region ?_
      refine TL.add hF rfl rfl (by omega) (by omega) rfl ?_
      refine TL.move hF rfl rfl ?_
      refine TL.nil ?_
      have hp : ¬ U r k dn = true := by simpa using ht20
      exact TQ.round (k + 1, η1) ⟨by simp only; omega, by simp only; rw [filter_succ, if_neg hp]; exact hJ⟩ (by simp only; omega) ⟨rfl, rfl, rfl, rfl, rfl, rfl, trivial⟩ rfl
    · refine T.skip ?_
      refine TQ.then_n ?_
      refine T.seq ?_
      refine T.region ?_
      refine TL.move hF rfl rfl ?_
      refine TL.move hF rfl rfl ?_
      have hp : U r k dn = true := by simpa using ht20
      refine TL.yield rfl rfl rfl (hY _ _ _ (filter_enc (p := fun s : Nat => U r s dn) (by omega) hp) hJ) rfl (fun yb η2 hyb => ?_)
      refine TL.not hF rfl rfl ?_
      refine TL.nil ?_
      refine TQ.then_n ?_
      refine T.cond _ rfl (fun ht24 => ?_) (fun ht24 => ?_)
      · refine T.ret ?_
        refine TQ.block_r ?_
        refine TQ.then_r ?_
        refine TQ.then_r ?_
        refine TQ.block_r ?_
        refine TQ.scope_r ?_
        refine TQ.rets [] _ rfl rfl rfl ?_
        have hyf : yb = false := by simpa using ht24
        subst hyf
        exact .inr hyb
      · refine T.skip ?_
        refine TQ.block_n ?_
        refine TQ.then_n ?_
        refine T.region ?_
        refine TL.add hF rfl rfl (by omega) (by omega) rfl ?_
        refine TL.move hF rfl rfl ?_
        refine TL.nil ?_
        have hyt : yb = true := by simpa using ht24
        subst hyt
        exact TQ.round (k + 1, η2) ⟨by simp only; omega, by simp only; rw [filter_succ, if_pos hp]; exact hyb⟩ (by simp only; omega) ⟨rfl, rfl, rfl, rfl, rfl, rfl, trivial⟩ rfl
  · refine T.exit ?_
    refine TQ.then_x ?_
    refine TQ.then_x ?_
    refine TQ.block_x ?_
    refine TQ.scope_n ?_
    refine TQ.norm ?_
    refine TQ.rets [] _ rfl rfl rfl ?_
    have hkn : k = n := by omega
    subst hkn
    left; simpa using hJ
end Go.Proofs.Ytdehpaikapbckaa
/- Marks along uses: plain Lean. -/
namespace Go.Proofs.Ytdehpaikapbckaa
theorem flen_le {p q : Nat → Bool} : ∀ {l : List Nat}, (∀ x ∈ l, p x = true → q x = true) → (l.filter p).length ≤ (l.filter q).length
  | [], _ => by simp
  | x :: l, h => by
    have ih := flen_le (p := p) (q := q) (l := l) (fun y hy => h y (List.mem_cons_of_mem _ hy))
    have hx := h x List.mem_cons_self
    simp only [List.filter_cons]
    cases hp : p x with
    | true => rw [hx hp]; simp; omega
    | false => cases q x <;> simp <;> omega
theorem flen_lt {p q : Nat → Bool} {y : Nat} : ∀ {l : List Nat}, (∀ x ∈ l, p x = true → q x = true) → y ∈ l → q y = true → p y = false → (l.filter p).length < (l.filter q).length
  | [], _, hy, _, _ => by simp at hy
  | x :: l, h, hy, hq, hp => by
    have hx := h x List.mem_cons_self
    simp only [List.filter_cons]
    by_cases hxy : x = y
    · subst hxy
      have := flen_le (p := p) (q := q) (l := l) (fun z hz => h z (List.mem_cons_of_mem _ hz))
      rw [hq, hp]; simp; omega
    · have hyl : y ∈ l := by rcases List.mem_cons.1 hy with h1 | h1; exact absurd h1.symm hxy; exact h1
      have ih := flen_lt (p := p) (q := q) (l := l) (fun z hz => h z (List.mem_cons_of_mem _ hz)) hyl hq hp
      cases hpx : p x with
      | true => rw [hx hpx]; simp; omega
      | false => cases q x <;> simp <;> omega
def unm (n : Nat) (A : Nat → Bool) : Nat := ((List.range n).filter fun s => !A s).length
def markA (A : Nat → Bool) (s t : Nat) : Bool := if t = s then true else A t
theorem unm_mono {n : Nat} {A A' : Nat → Bool} (h : ∀ s, A s = true → A' s = true) : unm n A' ≤ unm n A := flen_le fun x _ hx => by
  cases hA : A x with
  | false => rfl
  | true => simp [h x hA] at hx
theorem unm_mark {n : Nat} {A : Nat → Bool} {s : Nat} (hs : s < n) (h : A s = false) : unm n (markA A s) < unm n A :=
  flen_lt (y := s) (fun x _ hx => by
    by_cases he : x = s
    · subst he; simp [markA] at hx
    · simpa [markA, he] using hx) (by simpa using hs) (by simp [h]) (by simp [markA])
structure StageOk (E : Nat → Nat → Bool) (n r : Nat) (A A' : Nat → Bool) : Prop where
  mono : ∀ s, A s = true → A' s = true
  sound : ∀ s, s < n → A' s = true → A s = true ∨ fwM E n r s = true
  cl : ∀ s, s < n → A' s = true → A s = false → ∀ t, t < n → E s t = true → A' t = true
  big : ∀ s, n ≤ s → A' s = A s
structure LookOk (E : Nat → Nat → Bool) (n r : Nat) (A A' : Nat → Bool) : Prop extends StageOk E n r A A' where
  dir : ∀ t, t < n → E r t = true → A' t = true
theorem StageOk.start (E : Nat → Nat → Bool) (n r : Nat) (A : Nat → Bool) : StageOk E n r A A := ⟨fun _ h => h, fun _ _ h => .inl h, fun s _ h1 h2 => absurd h1 (by rw [h2]; simp), fun _ _ => rfl⟩
theorem StageOk.step {E : Nat → Nat → Bool} {n r s : Nat} {A A1 A2 : Nat → Bool} (h : StageOk E n r A A1) (hs : s < n) (he : E r s = true) (h1 : A1 s = false) (hl : LookOk E n s (markA A1 s) A2) : StageOk E n r A A2 ∧ (∀ t, A1 t = true → A2 t = true) ∧ A2 s = true := by
  have m1 : ∀ t, A1 t = true → A2 t = true := fun t ht => hl.mono t (by by_cases e : t = s <;> simp [markA, e, ht])
  have m2 : A2 s = true := hl.mono s (by simp [markA])
  refine ⟨⟨fun t ht => m1 t (h.mono t ht), ?_, ?_, ?_⟩, m1, m2⟩
  · intro t ht ha
    rcases hl.sound t ht ha with hb | hb
    · by_cases e : t = s
      · subst e; exact .inr (fw_E he)
      · exact h.sound t ht (by simpa [markA, e] using hb)
    · exact .inr (fw_trans hs (fw_E he) hb)
  · intro u hu ha hA t ht hE
    cases hb : markA A1 s u with
    | false => exact hl.cl u hu ha hb t ht hE
    | true =>
      by_cases e : u = s
      · subst e; exact hl.dir t ht hE
      · exact m1 t (h.cl u hu (by simpa [markA, e] using hb) hA t ht hE)
  · intro u hu
    have e : u ≠ s := by omega
    rw [hl.big u hu]; simp [markA, e, h.big u hu]
/-- From nothing: just what one leads to. -/
theorem LookOk.is {E : Nat → Nat → Bool} {n r : Nat} {A' : Nat → Bool} (h : LookOk E n r (fun _ => false) A') (hr : r < n) : ∀ s, s < n → A' s = fwM E n r s := by
  intro s hs
  rw [Bool.eq_iff_iff]
  constructor
  · intro ha
    rcases h.sound s hs ha with h1 | h1
    · cases h1
    · exact h1
  · intro hf
    rcases fw_first hr hs hf with h1 | ⟨c, hc, h1, h2⟩
    · exact h.dir s hs h1
    · exact fw_least (fun x => A' x = true) (fun a b ha hb hx he => h.cl a ha hx rfl b hb he) (Nat.le_refl n) hc hs (h.dir c hc h1) h2
end Go.Proofs.Ytdehpaikapbckaa
/- What the program marks along uses. -/
namespace Go.Proofs.Ytdehpaikapbckaa
open Go.Sl
variable {S : Nat → Prop} {w0 : World} {η : Heap}
abbrev isseg (b : Nat) (A : Nat → Bool) : Seg := [(b, .cells (rowC 48 A).toArray 89 (0, 0))]
def LookC (b2 b4 b5 b6 bw : Nat) (n : Int) (U : Int → Int → Bool → Bool) (m : List ((Int × Int) × Bool)) (η : Heap) : Prop :=
  [(b2, Obj.cells #[ptr bw] 59 (0, 0))] ∈ η ∧ [(b5, Obj.cells #[fnV 60] 72 (0, 0))] ∈ η ∧ [(b6, Obj.cells #[.func (.func 69) #[] #[ptr b2, ptr b5, ptr b4, ptr b6]] 88 (0, 0))] ∈ η ∧ Web η bw n U m
theorem LookC.up {b2 b4 b5 b6 bw : Nat} {n : Int} {U : Int → Int → Bool → Bool} {m : List ((Int × Int) × Bool)} {η' : Heap} (h : LookC b2 b4 b5 b6 bw n U m η) (hs : ∀ s ∈ η, s ∈ η') : LookC b2 b4 b5 b6 bw n U m η' := ⟨hs _ h.1, hs _ h.2.1, hs _ h.2.2.1, h.2.2.2.up hs⟩
abbrev EN (U : Int → Int → Bool → Bool) (a b : Nat) : Bool := U a b false
theorem isseg_set {b j : Nat} {A B : Nat → Bool} {r : Heap} (h : ∀ i, i < 48 → B i = if i = j then true else A i) : [(b, Obj.cells ((rowC 48 A).toArray.setIfInBounds j (.bool true)) 89 (0, 0))] :: r = isseg b B :: r := by rw [rowC_set h]
theorem isseg_at {b j : Nat} {A : Nat → Bool} (h : isseg b A ∈ η) (hj : j < 48) : At S w0 η ⟨b, 0 + j * 1, none⟩ (.bool (A j)) := by
  rw [Nat.mul_one]; exact own_listM h j _ (rowC_get hj)
def succs (U : Int → Int → Bool → Bool) (n r : Nat) : List Nat := (List.range n).filter fun s : Nat => U r s false

set_option maxHeartbeats 2000000 in
theorem look_fn {b2 b4 b5 b6 bw n : Nat} {U : Int → Int → Bool → Bool} {m : List ((Int × Int) × Bool)} (hn : n ≤ 48) : ∀ (k : Nat) (A : Nat → Bool) (r : Nat) (η : Heap), unm n A ≤ k → r < n → LookC b2 b4 b5 b6 bw n U m η →
    Rt Try.prog 69 [.int .i64 (r : Int), ptr b2, ptr b5, ptr b4, ptr b6].toArray S w0 (isseg b4 A :: η) (fun _ η' => ∃ A', η' = isseg b4 A' :: η ∧ LookOk (EN U) n r A A') := by
  intro k
  induction k using Nat.strongRecOn with
  | ind k ih =>
  intro A r η hu hr hc
  have hF := open_wide
  refine Rt.ofL (fn := Try.f69) Try.func69 rfl rfl ?_
  refine T.seq ?_
  refine T.region ?_
  refine TL.load hF rfl (own_mem (List.mem_cons_of_mem _ hc.1) rfl) rfl ?_
  refine TL.move hF rfl rfl ?_
  refine TL.loadA hF [fnV 60] rfl rfl (own_listM (List.mem_cons_of_mem _ hc.2.1)) rfl ?_
  refine TL.call hF (from_fn (ptr bw) rfl r 60) rfl rfl ?_
  rintro _ _ ⟨c3, c4, c5, rfl, rfl⟩
  refine TL.nil ?_
  refine TQ.then_n ?_
  refine T.block ?_
  refine T.rangeFunc (fst := []) (cap := [ptr c3, ptr c5, ptr c4]) rfl (from_iter (S := S) (w0 := w0) (b3 := c3) (b4 := c4) (b5 := c5) (bw := bw) (r := r) (g := 60) (n := n) (U := U) (m := m) (by omega) (kind_any U)) (by
      intro e he; obtain ⟨s, _, rfl⟩ := List.mem_map.1 he; rfl) (by simp) (fun i η1 => ∃ A1, η1 = [(c5, .cells #[fnV 60] 72 (0, 0))] :: [(c4, .cells #[.int .i64 (r : Int)] 3 (0, 0))] :: [(c3, .cells #[ptr bw] 59 (0, 0))] :: isseg b4 A1 :: η ∧ StageOk (EN U) n r A A1 ∧ ∀ t ∈ (succs U n r).take i, A1 t = true) (fun _ _ => False) ⟨A, rfl, StageOk.start _ _ _ _, by simp⟩ ?_ ?_ ?_ ?_
  · rintro i _ tl ⟨A1, rfl, _⟩
    exact ⟨by simp, by simp, by simp, hc.2.2.2.up (fun x hx => by simp [hx])⟩
  · rintro l tl tl' i e _ hie ⟨A1, rfl, hst, hdi⟩
    have hF := open_round l
    have hil : i < (succs U n r).length := by have := (List.getElem?_eq_some_iff.1 hie).1; simpa [succs] using this
    have hee : e = [.int .i64 (((succs U n r)[i] : Nat) : Int)] := by
      have := (List.getElem?_eq_some_iff.1 hie).2; rw [← this]; simp [succs]
    subst hee
    have hsi : (succs U n r)[i] ∈ succs U n r := List.getElem_mem _
    generalize hsv : (succs U n r)[i] = s at hsi ⊢
    have hs2 : s < n ∧ U r s false = true := by simpa [succs] using hsi
    have htk : (succs U n r).take (i + 1) = (succs U n r).take i ++ [s] := by rw [List.take_succ_eq_append_getElem hil, hsv]
    refine T.region ?_
    refine TL.assign hF rfl rfl ?_
    refine TL.nil ?_
    refine TQ.swapT _ rfl ?_
    refine T.block ?_
    refine T.seq ?_
    refine T.region ?_
    refine TL.move hF rfl rfl ?_
    refine TL.indexAddrA hF rfl rfl (by omega) (by have := hs2.1; omega) rfl ?_
    refine TL.load hF rfl (isseg_at (b := b4) (A := A1) (j := s) (by simp) (by have := hs2.1; omega)) rfl ?_
    refine TL.not hF rfl rfl ?_
    refine TL.nil ?_
    refine TQ.then_n ?_
    refine T.cond _ rfl (fun ht15 => ?_) (fun ht15 => ?_)
    · refine T.seq ?_
      refine T.region ?_
      refine TL.move hF rfl rfl ?_
      refine TL.indexAddrA hF rfl rfl (by omega) (by have := hs2.1; omega) rfl ?_
      refine TL.storeI hF 3 rfl rfl rfl rfl (by have := hs2.1; simp [rowC_len]; omega) ?_
      refine TL.nil ?_
      refine TQ.then_n ?_
      refine T.region ?_
      refine TL.load hF rfl (own_mem (cs := #[.func (.func 69) #[] #[ptr b2, ptr b5, ptr b4, ptr b6]]) (e := 88) (fz := (0, 0)) (by simp [hc.2.2.1]) rfl) rfl ?_
      refine TL.move hF rfl rfl ?_
      have hA1 : A1 s = false := by simpa using ht15
      have hmk : unm n (markA A1 s) < k := Nat.lt_of_lt_of_le (unm_mark hs2.1 hA1) (Nat.le_trans (unm_mono hst.mono) hu)
      refine TL.hperm (isseg b4 (markA A1 s) :: ([(c5, .cells #[fnV 60] 72 (0, 0))] :: [(c4, .cells #[.int .i64 (r : Int)] 3 (0, 0))] :: [(c3, .cells #[ptr bw] 59 (0, 0))] :: (η ++ tl'))) ?_ ?_
      · refine List.Perm.trans (List.perm_middle (l₁ := ([[(c5, Obj.cells #[fnV 60] 72 (0, 0))], [(c4, Obj.cells #[.int .i64 (r : Int)] 3 (0, 0))], [(c3, Obj.cells #[ptr bw] 59 (0, 0))]] : Heap))).symm (List.Perm.of_eq ?_)
        refine congrArg (fun x : Heap => [(c5, .cells #[fnV 60] 72 (0, 0))] :: [(c4, .cells #[.int .i64 (r : Int)] 3 (0, 0))] :: [(c3, .cells #[ptr bw] 59 (0, 0))] :: x) (isseg_set (j := 0 + (s : Int).toNat * 1) (r := η ++ tl') ?_).symm
        intro t _
        simp [markA]
      refine TL.call hF (ih _ hmk (markA A1 s) s _ (Nat.le_refl _) hs2.1 (hc.up (fun x hx => by simp [hx]))) rfl rfl ?_
      rintro _ _ ⟨A2, rfl, hlk⟩
      refine TL.nil ?_
      refine TQ.block_n ?_
      obtain ⟨h1, h2, h3⟩ := hst.step hs2.1 hs2.2 hA1 hlk
      refine TQ.hperm (([(c5, .cells #[fnV 60] 72 (0, 0))] :: [(c4, .cells #[.int .i64 (r : Int)] 3 (0, 0))] :: [(c3, .cells #[ptr bw] 59 (0, 0))] :: isseg b4 A2 :: η) ++ tl') ?_ ?_
      · exact List.perm_middle (l₁ := [_, _, _])
      exact TQ.rq_n _ rfl ⟨A2, rfl, h1, fun t ht => by
        rw [htk] at ht
        rcases List.mem_append.1 ht with h | h
        · exact h2 t (hdi t h)
        · have : t = s := by simpa using h
          subst this; exact h3⟩
    · refine T.skip ?_
      refine TQ.block_n ?_
      have hA1 : A1 s = true := by simpa using ht15
      exact TQ.rq_n _ rfl ⟨A1, rfl, hst, fun t ht => by
        rw [htk] at ht
        rcases List.mem_append.1 ht with h | h
        · exact hdi t h
        · have : t = s := by simpa using h
          subst this; exact hA1⟩
  · rintro mk _ ⟨A1, rfl, hst, hdi⟩
    refine TQ.block_n ?_
    refine TQ.normL ?_
    refine TQ.mark (i := 0) (.inl rfl) rfl ?_
    refine TQ.hsub (isseg b4 A1 :: η) (List.Sublist.cons _ (List.Sublist.cons _ (List.Sublist.cons _ (List.sublist_cons_self _ _)))) ?_
    refine TQ.retL0 [] [] rfl rfl rfl ⟨A1, rfl, hst, fun t ht he => hdi t ?_⟩
    rw [List.length_map, ← succs, List.take_length]
    simp [succs, ht, he]
  · rintro _ _ _ h; exact h.elim
end Go.Proofs.Ytdehpaikapbckaa
/- What the program says of ways: all of them, and the least of each block. -/
namespace Go.Proofs.Ytdehpaikapbckaa
open Go.Sl
variable {S : Nat → Prop} {w0 : World} {η : Heap}
theorem rowC_part {N w k : Nat} {G G' A : Nat → Bool} (h : (k + 1) * w ≤ N) (h1 : ∀ i, i < N → (i < k * w ∨ k * w + w ≤ i) → G' i = G i) (h2 : ∀ j, j < w → G' (k * w + j) = A j) :
    (rowC N G).take (k * w) ++ rowC w A ++ (rowC N G).drop (k * w + (rowC w A).length) = rowC N G' := by
  have hkw : k * w + w ≤ N := by rw [Nat.add_mul] at h; omega
  apply List.ext_getElem?
  intro i
  rw [rowC_len]
  by_cases hi : i < N
  · rw [rowC_get hi]
    rcases Nat.lt_or_ge i (k * w) with h3 | h3
    · rw [List.append_assoc, List.getElem?_append_left (by simp [rowC_len]; omega), List.getElem?_take_of_lt h3, rowC_get hi, h1 i hi (.inl h3)]
    · rcases Nat.lt_or_ge i (k * w + w) with h4 | h4
      · rw [List.append_assoc, List.getElem?_append_right (by simp [rowC_len]; omega), List.length_take, rowC_len, Nat.min_eq_left (by omega), List.getElem?_append_left (by rw [rowC_len]; omega), rowC_get (by omega), ← h2 _ (by omega)]
        congr 3; omega
      · rw [List.getElem?_append_right (by simp [rowC_len]; omega), List.getElem?_drop]
        have e : k * w + w + (i - (List.take (k * w) (rowC N G) ++ rowC w A).length) = i := by simp [rowC_len]; omega
        rw [e, rowC_get hi, h1 i hi (.inr h4)]
  · have e1 : (rowC N G')[i]? = none := List.getElem?_eq_none (by rw [rowC_len]; omega)
    rw [e1]; apply List.getElem?_eq_none; simp [rowC_len]; omega
theorem rowC_same {N : Nat} {G : Nat → Bool} : (rowC N G).take 0 ++ rowC N G ++ (rowC N G).drop (0 + (rowC N G).length) = rowC N G := by simp
theorem cells_rep (N : Nat) (x : Value) : (Value.agg (Array.replicate N x)).cells = (List.replicate N x).toArray := by simp [Value.cells]
theorem rowC1 (N : Nat) (G : Nat → Bool) : ∀ v ∈ rowC N G, v.oneCell' = true := by intro v hv; obtain ⟨b, _, rfl⟩ := List.mem_map.1 hv; rfl

set_option maxHeartbeats 2000000 in
theorem reached_fn {bw n r c : Nat} {U : Int → Int → Bool → Bool} {m : List ((Int × Int) × Bool)} {a : Option Addr} (hn : n ≤ 48) (hr : r < n) (hw : Web η bw n U m) (ha : Row S w0 η a [.int .i64 (r : Int)]) :
    Rt Try.prog 64 [ptr bw, .slice a 1 c].toArray S w0 η (fun v η' => ∃ A, v = .agg (rowC 48 A).toArray ∧ η' = η ∧ LookOk (EN U) n r (fun _ => false) A) := by
  have hF := open_wide
  refine Rt.of (fn := Try.f64) Try.func64 rfl rfl ?_
  refine T.seq ?_
  refine T.region ?_
  refine TL.box hF rfl rfl (fun b2 => ?_)
  refine TL.alloc hF rfl (fun b4 => ?_)
  refine TL.nil ?_
  refine TQ.then_n ?_
  refine T.seq ?_
  refine T.region ?_
  refine TL.callV hF (all_fn) rfl rfl ?_
  refine TL.indexR hF rfl rfl (r := .agg #[fnV 60]) (fun w => by kernel_rfl) rfl ?_
  refine TL.alloc hF rfl (fun b5 => ?_)
  refine TL.storeAI hF [fnV 60] 0 rfl rfl rfl rfl (by simp [Value.oneCell']) (by simp [Value.cells]) ?_
  refine TL.nil ?_
  refine TQ.then_n ?_
  refine T.seq ?_
  refine T.region ?_
  refine TL.alloc hF rfl (fun b6 => ?_)
  refine TL.nil ?_
  refine TQ.then_n ?_
  refine T.seq ?_
  refine T.region ?_
  refine TL.makeFunc hF rfl rfl rfl ?_
  first | refine TL.storeI hF 0 rfl rfl rfl rfl (by first | decide | simp) ?_ | refine TL.storeI hF 1 rfl rfl rfl rfl (by first | decide | simp) ?_ | refine TL.storeI hF 2 rfl rfl rfl rfl (by first | decide | simp) ?_ | refine TL.storeI hF 3 rfl rfl rfl rfl (by first | decide | simp) ?_
  refine TL.nil ?_
  refine TQ.then_n ?_
  refine T.seq ?_
  refine T.seq ?_
  refine T.region ?_
  refine TL.move hF rfl rfl ?_
  refine TL.len hF rfl rfl ?_
  refine TL.move hF rfl rfl ?_
  refine TL.nil ?_
  refine TQ.then_n ?_
  refine T.block ?_
  refine T.hperm (isseg b4 (fun _ => false) :: [(b6, .cells #[.func (.func 69) #[] #[ptr b2, ptr b5, ptr b4, ptr b6]] 88 (0, 0))] :: [(b5, .cells #[fnV 60] 72 (0, 0))] :: [(b2, .cells #[ptr bw] 59 (0, 0))] :: η) (by
    have e : (Value.agg (Array.replicate 48 (.bool false))).cells = (rowC 48 fun _ => false).toArray := by kernel_rfl
    exact (List.perm_middle (l₁ := [_, _])).symm) ?_
  refine T.loop (ι := Nat × (Nat → Bool)) (fun i => (i.1 = 0 ∧ i.2 = fun _ => false) ∨ (i.1 = 1 ∧ LookOk (EN U) n r (fun _ => false) i.2)) (fun i => [(4, ptr b4), (6, ptr b6), (12, .slice a 1 c), (13, .int .i64 1), (14, .int .i64 (i.1 : Int))]) (fun i => isseg b4 i.2 :: [(b6, .cells #[.func (.func 69) #[] #[ptr b2, ptr b5, ptr b4, ptr b6]] 88 (0, 0))] :: [(b5, .cells #[fnV 60] 72 (0, 0))] :: [(b2, .cells #[ptr bw] 59 (0, 0))] :: η) (fun i => 1 - i.1) (0, fun _ => false) (.inl ⟨rfl, rfl⟩) ⟨rfl, rfl, rfl, rfl, rfl, trivial⟩ rfl ?_
  rintro ⟨k, A⟩ hkA
  simp only at hkA
  refine T.seq ?_
  refine T.region ?_
  refine TL.bin hF rfl rfl rfl rfl ?_
  refine TL.nil ?_
  refine TQ.then_n ?_
  refine T.seq ?_
  first | refine T.cond_d rfl (fun ht15 => ?_) (fun ht15 => ?_) | refine T.cond _ rfl (fun ht15 => ?_) (fun ht15 => ?_)
  · refine T.skip ?_
    refine TQ.then_n ?_
    refine T.seq ?_
    refine T.block ?_
    refine T.seq ?_
    refine T.region ?_
    obtain ⟨rfl, rfl⟩ : k = 0 ∧ A = fun _ => false := by
      rcases hkA with h | h
      · exact h
      · exfalso; have h' : (k : Int) < (1 : Nat) := ht15; omega
    refine TL.indexAddr hF rfl rfl (ha.adi (i := 0) (by simp)) (by omega) (by omega) rfl ?_
    refine TL.load hF rfl ((ha.cell 0 _ rfl).up (fun x hx => by simp [hx])) rfl ?_
    refine TL.assign hF rfl rfl ?_
    refine TL.nil ?_
    refine TQ.then_n ?_
    refine T.region ?_
    refine TL.load hF rfl (own_mem (cs := #[.func (.func 69) #[] #[ptr b2, ptr b5, ptr b4, ptr b6]]) (e := 88) (fz := (0, 0)) (by simp) rfl) rfl ?_
    refine TL.move hF rfl rfl ?_
    refine TL.call hF (look_fn (bw := bw) (m := m) (U := U) (b2 := b2) (b5 := b5) (b6 := b6) (b4 := b4) hn (unm n fun _ => false) (fun _ => false) r _ (Nat.le_refl _) hr ⟨by simp, by simp, by simp, hw.up (fun x hx => by simp [hx])⟩) rfl rfl ?_
    rintro _ _ ⟨A2, rfl, hlk⟩
    refine TL.nil ?_
    refine TQ.block_n ?_
    refine TQ.then_n ?_
    refine T.region ?_
    refine TL.add hF rfl rfl (by omega) (by omega) rfl ?_
    refine TL.move hF rfl rfl ?_
    refine TL.nil ?_
    exact TQ.round (1, A2) (.inr ⟨rfl, hlk⟩) (by simp) ⟨rfl, rfl, rfl, rfl, rfl, trivial⟩ rfl
  · refine T.exit ?_
    refine TQ.then_x ?_
    refine TQ.then_x ?_
    refine TQ.block_x ?_
    refine TQ.then_n ?_
    refine T.seq ?_
    refine T.region ?_
    refine TL.loadA hF (rowC 48 A) rfl (rowC_len 48 A) (own_list (i := 0) rfl) rfl ?_
    refine TL.storeAs hF (rowC 48 A) (rowC 48 A) 0 (cs := rowC 48 A) rfl rfl rfl (rowC_len 48 A) (rowC1 48 A) (by rw [rowC_len]; omega) rowC_same ?_
    refine TL.nil ?_
    refine TQ.then_n ?_
    refine T.ret ?_
    have hlk : LookOk (EN U) n r (fun _ => false) A := by
      rcases hkA with h | h
      · exfalso; have h' : ¬ (k : Int) < (1 : Nat) := ht15; omega
      · exact h.2
    exact TQ.retC (rowC 48 A) η rfl rfl (rowC_len 48 A) (own_list (i := 0) rfl) (List.Sublist.cons _ (List.Sublist.cons _ (List.Sublist.cons _ (List.sublist_cons_self _ _)))) ⟨A, rfl, rfl, hlk⟩
/-- All ways, in a table of 48 rows. -/
def gC (E : Nat → Nat → Bool) (n k i : Nat) : Bool := decide (i / 48 < k) && (decide (i % 48 < n) && fwM E n (i / 48) (i % 48))
theorem look_gC {E : Nat → Nat → Bool} {n r : Nat} {A : Nat → Bool} (hr : r < n) (h : LookOk E n r (fun _ => false) A) : ∀ j, j < 48 → gC E n (r + 1) (r * 48 + j) = A j := by
  intro j hj
  have e1 : (r * 48 + j) / 48 = r := by omega
  have e2 : (r * 48 + j) % 48 = j := by omega
  unfold gC
  rw [e1, e2]
  by_cases h2 : j < n
  · rw [h.is hr j h2]; simp [h2]
  · rw [h.big j (by omega)]; simp [h2]
theorem gC_step {E : Nat → Nat → Bool} {n r i : Nat} (h : i < r * 48 ∨ r * 48 + 48 ≤ i) : gC E n (r + 1) i = gC E n r i := by
  unfold gC
  have : decide (i / 48 < r + 1) = decide (i / 48 < r) := by
    rw [Bool.eq_iff_iff]; simp only [decide_eq_true_eq]; omega
  rw [this]
abbrev gseg (b : Nat) (G : Nat → Bool) : Seg := [(b, .cells (rowC 2304 G).toArray 90 (0, 0))]

set_option maxHeartbeats 2000000 in
theorem leads_fn {bw n : Nat} {U : Int → Int → Bool → Bool} {m : List ((Int × Int) × Bool)} (hn : n ≤ 48) (hw : Web η bw n U m) :
    Rt Try.prog 47 [ptr bw].toArray S w0 η (fun v η' => v = .agg (rowC 2304 (gC (EN U) n n)).toArray ∧ η' = η) := by
  have hF := open_wide
  refine Rt.of (fn := Try.f47) Try.func47 rfl rfl ?_
  refine T.seq ?_
  refine T.region ?_
  refine TL.alloc hF rfl (fun b2 => ?_)
  refine TL.nil ?_
  refine TQ.then_n ?_
  refine T.seq ?_
  refine T.region ?_
  refine TL.move hF rfl rfl ?_
  refine TL.makeFunc hF rfl rfl rfl ?_
  refine TL.assign hF rfl rfl ?_
  refine TL.nil ?_
  refine TQ.then_n ?_
  refine T.seq ?_
  refine T.seq ?_
  refine T.region ?_
  obtain ⟨bm, es, clock, hws, hwm, hwo⟩ := hw.ex
  refine TL.move hF rfl rfl ?_
  refine TL.nilCheck hF rfl rfl ?_
  refine TL.fieldAddr hF rfl rfl ?_
  refine TL.load hF rfl (own_mem (List.mem_cons_of_mem _ hws) rfl) rfl ?_
  refine TL.move hF rfl rfl ?_
  refine TL.nil ?_
  refine TQ.then_n ?_
  refine T.block ?_
  refine T.loop (ι := Nat) (fun k => k ≤ n) (fun k => [(2, ptr b2), (3, .func (.func 64) #[ptr bw] #[]), (10, .int .i64 (n : Int)), (11, .int .i64 (k : Int))]) (fun k => gseg b2 (gC (EN U) n k) :: η) (fun k => n - k) 0 (Nat.zero_le _) ⟨rfl, rfl, rfl, rfl, trivial⟩ (by
    have e : (Value.agg (Array.replicate 2304 (.bool false))).cells = (rowC 2304 (gC (EN U) n 0)).toArray := by
      have h1 : rowC 2304 (gC (EN U) n 0) = rowC 2304 fun _ => false := rowC_congr (fun j _ => by simp [gC])
      rw [h1, ← rowC_false]; exact cells_rep 2304 _
    rw [e]) ?_
  rintro k hk
  refine T.seq ?_
  refine T.region ?_
  refine TL.bin hF rfl rfl rfl rfl ?_
  refine TL.nil ?_
  refine TQ.then_n ?_
  refine T.seq ?_
  first | refine T.cond_d rfl (fun ht12 => ?_) (fun ht12 => ?_) | refine T.cond _ rfl (fun ht12 => ?_) (fun ht12 => ?_)
  · refine T.skip ?_
    refine TQ.then_n ?_
    refine T.seq ?_
    refine T.block ?_
    refine T.seq ?_
    refine T.region ?_
    refine TL.move hF rfl rfl ?_
    refine TL.assign hF rfl rfl ?_
    refine TL.nil ?_
    refine TQ.then_n ?_
    refine T.region ?_
    refine TL.move hF rfl rfl ?_
    refine TL.move hF rfl rfl ?_
    refine TL.move hF rfl rfl ?_
    refine TL.buildSlice hF rfl (cs := #[.int .i64 (k : Int)]) (e := 3) (fun w => by kernel_rfl) rfl (fun b17 => ?_)
    refine TL.call hF (reached_fn (n := n) (r := k) hn (by omega) (hw.up (fun x hx => by simp [hx])) (row_own (cs := [.int .i64 (k : Int)]) (e := 3) (by simp))) rfl rfl ?_
    rintro _ _ ⟨A, rfl, rfl, hA⟩
    refine TL.indexAddrA hF rfl rfl (by omega) (by omega) rfl ?_
    refine TL.storeAs hF (rowC 48 A) (rowC 2304 (gC (EN U) n (k + 1))) 1 (cs := rowC 2304 (gC (EN U) n k)) rfl rfl rfl (rowC_len 48 A) (rowC1 48 A) (by rw [rowC_len]; omega) (by rw [show 0 + (k : Int).toNat * 48 = k * 48 by omega]; exact rowC_part (by omega) (fun i _ h => gC_step h) (look_gC (by omega) hA)) ?_
    refine TL.nil ?_
    refine TQ.block_n ?_
    refine TQ.then_n ?_
    refine T.region ?_
    refine TL.add hF rfl rfl (by omega) (by omega) rfl ?_
    refine TL.move hF rfl rfl ?_
    refine TL.nil ?_
    refine TQ.pop ?_
    exact TQ.round (k + 1) (by omega) (by omega) ⟨rfl, rfl, rfl, rfl, trivial⟩ rfl
  · refine T.exit ?_
    refine TQ.then_x ?_
    refine TQ.then_x ?_
    refine TQ.block_x ?_
    refine TQ.then_n ?_
    refine T.seq ?_
    refine T.region ?_
    refine TL.loadA hF (rowC 2304 (gC (EN U) n k)) rfl (rowC_len _ _) (own_list (i := 0) rfl) rfl ?_
    refine TL.storeAs hF (rowC 2304 (gC (EN U) n k)) (rowC 2304 (gC (EN U) n k)) 0 (cs := rowC 2304 (gC (EN U) n k)) rfl rfl rfl (rowC_len _ _) (rowC1 _ _) (by rw [rowC_len]; omega) rowC_same ?_
    refine TL.nil ?_
    refine TQ.then_n ?_
    refine T.ret ?_
    have hkn : k = n := by omega
    subst hkn
    exact TQ.retC (rowC 2304 (gC (EN U) k k)) η rfl rfl (rowC_len _ _) (own_list (i := 0) rfl) (List.sublist_cons_self _ _) ⟨rfl, rfl⟩
end Go.Proofs.Ytdehpaikapbckaa
/- The least relation of each block, and whether blocks are denied. -/
namespace Go.Proofs.Ytdehpaikapbckaa
open Go.Sl
variable {S : Nat → Prop} {w0 : World} {η : Heap}
def ofS (E : Nat → Nat → Bool) (n r : Nat) : Nat := ((List.range r).find? fun s => fwM E n r s && fwM E n s r).getD r
theorem gC_at {E : Nat → Nat → Bool} {n a b : Nat} (hn : n ≤ 48) (ha : a < n) (hb : b < n) : gC E n n (a * 48 + b) = fwM E n a b := by
  unfold gC
  rw [show (a * 48 + b) / 48 = a by omega, show (a * 48 + b) % 48 = b by omega]
  simp [ha, hb]
theorem gseg_at {E : Nat → Nat → Bool} {n a b k : Nat} (h : gseg b (gC E n n) ∈ η) (hn : n ≤ 48) (ha : a < n) (hk : k < n) : At S w0 η ⟨b, 0 + a * 48 + k * 1, none⟩ (.bool (fwM E n a k)) := by
  have h1 := own_listM (S := S) (w0 := w0) h (a * 48 + k) _ (rowC_get (by omega))
  rw [gC_at hn ha hk] at h1
  rw [show 0 + a * 48 + k * 1 = 0 + (a * 48 + k) by omega]; exact h1
theorem ofS_some {E : Nat → Nat → Bool} {n r s : Nat} (hs : s < r) (h : fwM E n r s = true ∧ fwM E n s r = true) (hl : ∀ x, x < s → ¬ (fwM E n r x = true ∧ fwM E n x r = true)) : ofS E n r = s := by
  unfold ofS
  rw [find_is hs (by simp [h.1, h.2]) (fun b hb => by rw [Bool.eq_false_iff]; intro h2; simp at h2; exact hl b hb h2)]
  rfl
theorem ofS_none {E : Nat → Nat → Bool} {n r : Nat} (hl : ∀ x, x < r → ¬ (fwM E n r x = true ∧ fwM E n x r = true)) : ofS E n r = r := by
  unfold ofS
  rw [List.find?_eq_none.2 (fun x hx => by intro h2; simp at h2 hx; exact hl x hx h2)]
  rfl

set_option maxHeartbeats 2000000 in
theorem of_fn {bw n : Nat} {U : Int → Int → Bool → Bool} {m : List ((Int × Int) × Bool)} (hn : n ≤ 48) (hw : Web η bw n U m) :
    Rt Try.prog 55 [ptr bw].toArray S w0 η (fun v η' => ∃ b, v = .slice (some ⟨b, 0, none⟩) n n ∧ η' = iseg b n (fun i => ((ofS (EN U) n i : Nat) : Int)) :: η) := by
  have hF := open_wide
  refine Rt.of (fn := Try.f55) Try.func55 rfl rfl ?_
  refine T.seq ?_
  refine T.region ?_
  refine TL.assign hF rfl rfl ?_
  refine TL.nil ?_
  refine TQ.then_n ?_
  refine T.seq ?_
  refine T.region ?_
  refine TL.move hF rfl rfl ?_
  refine TL.callV hF (leads_fn (n := n) hn hw) rfl rfl ?_
  refine TL.alloc hF rfl (fun b3 => ?_)
  rw [cells_rep 2304]
  refine TL.storeAs hF (rowC 2304 (gC (EN U) n n)) (rowC 2304 (gC (EN U) n n)) 0 (cs := List.replicate 2304 (.bool false)) rfl rfl rfl (rowC_len _ _) (rowC1 _ _) (by rw [List.length_replicate]; omega) (by rw [List.drop_of_length_le (by rw [List.length_replicate, rowC_len]; omega)]; simp) ?_
  refine TL.nil ?_
  refine TQ.then_n ?_
  refine T.seq ?_
  refine T.region ?_
  obtain ⟨bm, es, clock, hws, hwm, hwo⟩ := hw.ex
  refine TL.move hF rfl rfl ?_
  refine TL.nilCheck hF rfl rfl ?_
  refine TL.fieldAddr hF rfl rfl ?_
  refine TL.load hF rfl (own_mem (List.mem_cons_of_mem _ hws) rfl) rfl ?_
  refine TL.makeSlice hF (k := n) rfl rfl rfl (by omega) (by omega) rfl (fun b13 => ?_)
  refine TL.assign hF rfl rfl ?_
  refine TL.nil ?_
  refine TQ.then_n ?_
  refine T.seq ?_
  refine T.seq ?_
  refine T.region ?_
  refine TL.move hF rfl rfl ?_
  refine TL.len hF rfl rfl ?_
  refine TL.move hF rfl rfl ?_
  refine TL.nil ?_
  refine TQ.then_n ?_
  refine T.block ?_
  refine T.loop (ι := Nat) (fun k => k ≤ n) (fun k => [(0, ptr bw), (3, ptr b3), (4, .slice (some ⟨b13, 0, none⟩) n n), (14, .slice (some ⟨b13, 0, none⟩) n n), (15, .int .i64 (n : Int)), (16, .int .i64 (k : Int))]) (fun k => iseg b13 n (fun i => if i < k then ((ofS (EN U) n i : Nat) : Int) else 0) :: gseg b3 (gC (EN U) n n) :: η) (fun k => n - k) 0 (Nat.zero_le _) ⟨rfl, rfl, rfl, rfl, rfl, rfl, trivial⟩ (by rw [intC_zero]; rfl) ?_
  rintro k hk
  refine T.seq ?_
  refine T.region ?_
  refine TL.bin hF rfl rfl rfl rfl ?_
  refine TL.nil ?_
  refine TQ.then_n ?_
  refine T.seq ?_
  first | refine T.cond_d rfl (fun ht17 => ?_) (fun ht17 => ?_) | refine T.cond _ rfl (fun ht17 => ?_) (fun ht17 => ?_)
  · refine T.skip ?_
    refine TQ.then_n ?_
    refine T.seq ?_
    refine T.block ?_
    refine T.seq ?_
    refine T.region ?_
    refine TL.move hF rfl rfl ?_
    refine TL.assign hF rfl rfl ?_
    refine TL.nil ?_
    refine TQ.then_n ?_
    refine T.seq ?_
    refine T.region ?_
    refine TL.move hF rfl rfl ?_
    refine TL.move hF rfl rfl ?_
    refine TL.move hF rfl rfl ?_
    refine TL.indexAddr hF rfl rfl ⟨_, rfl, rfl⟩ (by omega) (by omega) rfl ?_
    refine TL.storeI hF 0 rfl rfl rfl rfl (by simp [intC_len]; omega) ?_
    refine TL.nil ?_
    refine TQ.then_n ?_
    refine T.seq ?_
    refine T.region ?_
    refine TL.move hF rfl rfl ?_
    refine TL.move hF rfl rfl ?_
    refine TL.nil ?_
    refine TQ.then_n ?_
    refine T.block ?_
    have hkn : k < n := by omega
    refine T.loop (ι := Nat) (fun s => s ≤ k ∧ ∀ x, x < s → ¬ (fwM (EN U) n k x = true ∧ fwM (EN U) n x k = true)) (fun s => [(0, ptr bw), (3, ptr b3), (4, .slice (some ⟨b13, 0, none⟩) n n), (14, .slice (some ⟨b13, 0, none⟩) n n), (15, .int .i64 (n : Int)), (16, .int .i64 (k : Int)), (5, .int .i64 (k : Int)), (23, .int .i64 (k : Int)), (24, .int .i64 (s : Int))]) (fun s => iseg b13 n (fun i => if i < k then ((ofS (EN U) n i : Nat) : Int) else if i = k then (k : Int) else 0) :: gseg b3 (gC (EN U) n n) :: η) (fun s => k - s) 0 ⟨Nat.zero_le _, by omega⟩ ⟨rfl, rfl, rfl, rfl, rfl, rfl, rfl, rfl, rfl, trivial⟩ (iseg_set (j := k) (by simp) (fun i hi => by by_cases h : i = k <;> simp [h])) ?_
    rintro s ⟨hs, hns⟩
    refine T.seq ?_
    refine T.region ?_
    refine TL.bin hF rfl rfl rfl rfl ?_
    refine TL.nil ?_
    refine TQ.then_n ?_
    refine T.seq ?_
    first | refine T.cond_d rfl (fun ht25 => ?_) (fun ht25 => ?_) | refine T.cond _ rfl (fun ht25 => ?_) (fun ht25 => ?_)
    · refine T.skip ?_
      refine TQ.then_n ?_
      refine T.seq ?_
      refine T.block ?_
      refine T.seq ?_
      refine T.region ?_
      refine TL.move hF rfl rfl ?_
      refine TL.assign hF rfl rfl ?_
      refine TL.nil ?_
      refine TQ.then_n ?_
      refine T.seq ?_
      refine T.region ?_
      refine TL.move hF rfl rfl ?_
      refine TL.move hF rfl rfl ?_
      refine TL.indexAddrA hF rfl rfl (by omega) (by omega) rfl ?_
      refine TL.indexAddrA hF rfl rfl (by omega) (by omega) rfl ?_
      refine TL.load hF rfl (gseg_at (E := EN U) (n := n) (a := k) (k := s) (by simp) hn hkn (by omega)) rfl ?_
      refine TL.move hF rfl rfl ?_
      refine TL.gb (t := 32) rfl (fun g10_32 => ?_) (fun g10_32 => ?_)
      · refine TL.on rfl rfl rfl g10_32 ?_
        refine TL.move hF rfl rfl ?_
        refine TL.on rfl rfl rfl g10_32 ?_
        refine TL.move hF rfl rfl ?_
        refine TL.on rfl rfl rfl g10_32 ?_
        refine TL.indexAddrA hF rfl rfl (by omega) (by omega) rfl ?_
        refine TL.on rfl rfl rfl g10_32 ?_
        refine TL.indexAddrA hF rfl rfl (by omega) (by omega) rfl ?_
        refine TL.on rfl rfl rfl g10_32 ?_
        refine TL.load hF rfl (gseg_at (E := EN U) (n := n) (a := s) (k := k) (by simp) hn (by omega) hkn) rfl ?_
        refine TL.pickT hF rfl g10_32 rfl rfl ?_
        refine TL.nil ?_
        refine TQ.then_n ?_
        refine T.cond _ rfl (fun ht38 => ?_) (fun ht38 => ?_)
        · refine T.seq ?_
          refine T.region ?_
          refine TL.move hF rfl rfl ?_
          refine TL.move hF rfl rfl ?_
          refine TL.move hF rfl rfl ?_
          refine TL.indexAddr hF rfl rfl ⟨_, rfl, rfl⟩ (by omega) (by omega) rfl ?_
          refine TL.storeI hF 0 rfl rfl rfl rfl (by simp [intC_len]; omega) ?_
          refine TL.nil ?_
          refine TQ.then_n ?_
          refine T.exit ?_
          refine TQ.block_o rfl ?_
          refine TQ.then_x ?_
          refine TQ.then_x ?_
          refine TQ.block_x ?_
          refine TQ.block_n ?_
          refine TQ.then_n ?_
          refine T.region ?_
          refine TL.add hF rfl rfl (by omega) (by omega) rfl ?_
          refine TL.move hF rfl rfl ?_
          refine TL.nil ?_
          exact TQ.round (k + 1) (by omega) (by omega) ⟨rfl, rfl, rfl, rfl, rfl, rfl, trivial⟩ (iseg_set (j := k) (by simp) (fun i hi => by
            by_cases h : i = k
            · subst h; simp [ofS_some (by omega) ⟨g10_32, ht38⟩ hns]
            · by_cases h2 : i < k
              · rw [if_pos (by omega), if_neg h, if_pos h2]
              · rw [if_neg (by omega), if_neg h, if_neg h2, if_neg h]))
        · refine T.skip ?_
          refine TQ.block_n ?_
          refine TQ.then_n ?_
          refine T.region ?_
          refine TL.add hF rfl rfl (by omega) (by omega) rfl ?_
          refine TL.move hF rfl rfl ?_
          refine TL.nil ?_
          exact TQ.round (s + 1) ⟨by omega, fun x hx h => by
            by_cases hxs : x = s
            · subst hxs; simp_all
            · exact hns x (by omega) h⟩ (by omega) ⟨rfl, rfl, rfl, rfl, rfl, rfl, rfl, rfl, rfl, trivial⟩ rfl
      · refine TL.off hF rfl rfl rfl g10_32 rfl ?_
        refine TL.off hF rfl rfl rfl g10_32 rfl ?_
        refine TL.off hF rfl rfl rfl g10_32 rfl ?_
        refine TL.off hF rfl rfl rfl g10_32 rfl ?_
        refine TL.off hF rfl rfl rfl g10_32 rfl ?_
        refine TL.pickF hF rfl g10_32 rfl rfl ?_
        refine TL.nil ?_
        refine TQ.then_n ?_
        refine T.cond_f rfl rfl ?_
        refine T.skip ?_
        refine TQ.block_n ?_
        refine TQ.then_n ?_
        refine T.region ?_
        refine TL.add hF rfl rfl (by omega) (by omega) rfl ?_
        refine TL.move hF rfl rfl ?_
        refine TL.nil ?_
        exact TQ.round (s + 1) ⟨by omega, fun x hx h => by
          by_cases hxs : x = s
          · subst hxs; simp_all
          · exact hns x (by omega) h⟩ (by omega) ⟨rfl, rfl, rfl, rfl, rfl, rfl, rfl, rfl, rfl, trivial⟩ rfl
    · refine T.exit ?_
      refine TQ.then_x ?_
      refine TQ.then_x ?_
      refine TQ.block_x ?_
      refine TQ.block_n ?_
      refine TQ.then_n ?_
      refine T.region ?_
      refine TL.add hF rfl rfl (by omega) (by omega) rfl ?_
      refine TL.move hF rfl rfl ?_
      refine TL.nil ?_
      exact TQ.round (k + 1) (by omega) (by omega) ⟨rfl, rfl, rfl, rfl, rfl, rfl, trivial⟩ (iseg_congr (fun i hi => by
        by_cases h : i = k
        · subst h; rw [if_neg (by omega), if_pos rfl, if_pos (by omega), ofS_none (fun x hx => hns x (by omega))]
        · by_cases h2 : i < k
          · rw [if_pos h2, if_pos (by omega)]
          · rw [if_neg h2, if_neg h, if_neg (by omega)]))
  · refine T.exit ?_
    refine TQ.then_x ?_
    refine TQ.then_x ?_
    refine TQ.block_x ?_
    refine TQ.then_n ?_
    refine T.seq ?_
    refine T.region ?_
    refine TL.move hF rfl rfl ?_
    refine TL.assign hF rfl rfl ?_
    refine TL.nil ?_
    refine TQ.then_n ?_
    refine T.ret ?_
    have hkn : k = n := by omega
    subst hkn
    refine TQ.hsub (iseg b13 k (fun i => if i < k then ((ofS (EN U) k i : Nat) : Int) else 0) :: η) (List.Sublist.cons_cons _ (List.sublist_cons_self _ _)) ?_
    refine TQ.rets [2] _ rfl rfl rfl ?_
    exact ⟨b13, rfl, iseg_congr (fun i hi => by simp [hi])⟩
/-- Two relations are of one block just if they have the same least one. -/
theorem ofS_le {E : Nat → Nat → Bool} {n r : Nat} : ofS E n r ≤ r := by
  unfold ofS
  cases h : (List.range r).find? fun s => fwM E n r s && fwM E n s r with
  | none => simp
  | some s => have := List.mem_of_find?_eq_some h; simp at this ⊢; omega
theorem ofS_in {E : Nat → Nat → Bool} {n r : Nat} : ofS E n r = r ∨ (fwM E n r (ofS E n r) = true ∧ fwM E n (ofS E n r) r = true) := by
  unfold ofS
  cases h : (List.range r).find? fun s => fwM E n r s && fwM E n s r with
  | none => exact .inl rfl
  | some s => have := List.find?_some h; simp at this; exact .inr this
theorem ofS_min {E : Nat → Nat → Bool} {n r s : Nat} (h1 : fwM E n r s = true) (h2 : fwM E n s r = true) : ofS E n r ≤ s := by
  apply Classical.byContradiction
  intro hc
  have hle := ofS_le (E := E) (n := n) (r := r)
  have hsr : s < r := by omega
  unfold ofS at hc
  cases h : (List.range r).find? fun s => fwM E n r s && fwM E n s r with
  | none =>
    have := List.find?_eq_none.1 h s (by simpa using hsr)
    simp [h1, h2] at this
  | some x =>
    rw [h] at hc
    simp only [Option.getD_some] at hc
    obtain ⟨hx, xs, ys, he, hb⟩ := List.find?_eq_some_iff_append.1 h
    have hsm : s ∈ List.range r := by simpa using hsr
    have hpw : (List.range r).Pairwise (· < ·) := List.pairwise_lt_range
    rw [he] at hsm hpw
    rcases List.mem_append.1 hsm with h3 | h3
    · have := hb s h3; simp [h1, h2] at this
    · rcases List.mem_cons.1 h3 with h4 | h4
      · omega
      · have := (List.pairwise_append.1 hpw).2.1
        have := (List.pairwise_cons.1 this).1 s h4
        omega
theorem ofS_eq {E : Nat → Nat → Bool} {n a b : Nat} (ha : a < n) (hb : b < n) : ofS E n a = ofS E n b ↔ (a = b ∨ (fwM E n a b = true ∧ fwM E n b a = true)) := by
  have la := ofS_le (E := E) (n := n) (r := a)
  have lb := ofS_le (E := E) (n := n) (r := b)
  constructor
  · intro h
    have ha2 := ofS_in (E := E) (n := n) (r := a)
    have hb2 := ofS_in (E := E) (n := n) (r := b)
    rw [h] at ha2 la
    rcases ha2 with h1 | h1 <;> rcases hb2 with h2 | h2
    · left; omega
    · right; rw [h1] at h2; exact ⟨h2.2, h2.1⟩
    · right; rw [h2] at h1; exact h1
    · right; exact ⟨fw_trans (by omega) h1.1 h2.2, fw_trans (by omega) h2.1 h1.2⟩
  · rintro (h | ⟨h1, h2⟩)
    · rw [h]
    · have key : ∀ {x y : Nat}, x < n → y < n → fwM E n x y = true → fwM E n y x = true → ofS E n x ≤ ofS E n y := by
        intro x y hx hy h1 h2
        have ly := ofS_le (E := E) (n := n) (r := y)
        rcases ofS_in (E := E) (n := n) (r := y) with h3 | ⟨h3, h4⟩
        · rw [h3]; exact ofS_min h1 h2
        · exact ofS_min (fw_trans hy h1 h3) (fw_trans hy h4 h2)
      exact Nat.le_antisymm (key ha hb h1 h2) (key hb ha h2 h1)

abbrev DN (U : Int → Int → Bool → Bool) (a b : Nat) : Bool := U a b true
/-- What is known of the uses. -/
structure UOk (U : Int → Int → Bool → Bool) (n : Nat) : Prop where
  le : ∀ a b, U a b true = true → U a b false = true
  rg : ∀ a b, U a b false = true → (0 ≤ a ∧ a < n) ∧ (0 ≤ b ∧ b < n)
theorem WOk.entry {U : Int → Int → Bool → Bool} {m : List ((Int × Int) × Bool)} (h : WOk U m) (hn : (m.map (·.1)).Nodup) {p : (Int × Int) × Bool} (hp : p ∈ m) : U p.1.1 p.1.2 false = true ∧ p.2 = U p.1.1 p.1.2 true := by
  obtain ⟨⟨a, b⟩, d⟩ := p
  have h1 := mget_of_mem hn hp
  rw [h a b] at h1
  split at h1
  · rename_i h2; simp only at h1 ⊢; cases h1; exact ⟨h2, rfl⟩
  · cases h1
theorem WOk.has {U : Int → Int → Bool → Bool} {m : List ((Int × Int) × Bool)} (h : WOk U m) {a b : Int} (hu : U a b false = true) : ((a, b), U a b true) ∈ m := by
  apply mget_mem; rw [h a b, if_pos hu]
theorem done_len {m : List ((Int × Int) × Bool)} {done : List (Int × Int)} (h1 : done.Nodup) (h2 : ∀ x ∈ done, x ∈ m.map (·.1)) {p : (Int × Int) × Bool} (hp : p ∈ m) (hd : p.1 ∉ done) : done.length < m.length := by
  have := (List.nodup_cons.2 ⟨hd, h1⟩).length_le_of_subset (l₂ := m.map (·.1)) (fun x hx => by
    rcases List.mem_cons.1 hx with rfl | hx
    · exact List.mem_map.2 ⟨_, hp, rfl⟩
    · exact h2 x hx)
  simp at this; omega

set_option maxHeartbeats 2000000 in
theorem ordered_prog {bw n : Nat} {U : Int → Int → Bool → Bool} {m : List ((Int × Int) × Bool)} (hn : n ≤ 48) (hw : Web η bw n U m) (hU : UOk U n) :
    RtE Try.prog 27 [ptr bw].toArray S w0 η (fun _v η' => ordB n (DN U) (fwM (EN U) n) = true ∧ η' = η) (fun ch η' => ordB n (DN U) (fwM (EN U) n) = false ∧ ch = stopV 10 ∧ η' = η) := by
  have hF := open_wide
  refine RtE.of (fn := Try.f27) Try.func27 rfl rfl ?_
  refine T.seq ?_
  refine T.region ?_
  refine TL.move hF rfl rfl ?_
  refine TL.call hF (of_fn (n := n) hn hw) rfl rfl ?_
  rintro _ _ ⟨bo, rfl, rfl⟩
  refine TL.assign hF rfl rfl ?_
  refine TL.nil ?_
  refine TQ.then_n ?_
  refine T.seq ?_
  refine T.region ?_
  obtain ⟨bm, es, clock, hws, hwm, hwo⟩ := hw.ex
  refine TL.move hF rfl rfl ?_
  refine TL.nilCheck hF rfl rfl ?_
  refine TL.fieldAddr hF rfl rfl ?_
  refine TL.load hF rfl (own_mem (List.mem_cons_of_mem _ hws) rfl) rfl ?_
  refine TL.range hF rfl (List.mem_cons_of_mem _ hwm) rfl (fun b11 => ?_)
  refine TL.nil ?_
  refine TQ.then_n ?_
  refine T.block ?_
  refine T.loop (ι := Array Nat × List (Int × Int)) (fun i => ItOk m es i.1 i.2 ∧ i.2.Nodup ∧ (∀ x ∈ i.2, x ∈ m.map (·.1)) ∧ ∀ p ∈ m, p.1 ∈ i.2 → p.2 = true → ofS (EN U) n p.1.1.toNat ≠ ofS (EN U) n p.1.2.toNat) (fun i => [(2, .slice (some ⟨bo, 0, none⟩) n n), (11, ptr b11)]) (fun i => [(b11, .mapIter (some bm) clock i.1 clock)] :: iseg bo n (fun i => ((ofS (EN U) n i : Nat) : Int)) :: η) (fun i => m.length - i.2.length) (#[], []) ⟨ItOk.start m es, by simp, by simp, by simp⟩ ⟨rfl, rfl, trivial⟩ rfl ?_
  rintro ⟨seen, done⟩ ⟨hit, hnd, hsub, hok⟩
  simp only at hit hnd hsub hok
  refine T.seq ?_
  refine T.region ?_
  refine TL.next hF 0 rfl rfl (List.mem_cons_of_mem _ (List.mem_cons_of_mem _ hwm)) hwo hit rfl (fun hover => ?_) (fun p12 seen12 hp12 hnd12 hit12 hent12 => ?_)
  · refine TL.extract hF rfl rfl rfl ?_
    refine TL.nil ?_
    refine TQ.then_n ?_
    refine T.seq ?_
    refine T.cond_f rfl rfl ?_
    refine T.exit ?_
    refine TQ.then_x ?_
    refine TQ.then_x ?_
    refine TQ.block_x ?_
    refine TQ.norm ?_
    refine TQ.pop ?_
    refine TQ.pop ?_
    refine TQ.retsE [] _ rfl rfl rfl ?_
    refine ⟨ordB_iff.2 fun a b ha hb hd hx => ?_, rfl⟩
    · have hu := hU.le a b hd
      have hin := hw.ok.has hu
      have h3 := hok _ hin (hover _ hin) hd
      simp only [Int.toNat_natCast] at h3
      refine h3 ((ofS_eq ha hb).2 ?_)
      rcases hx with h | h
      · exact .inl h
      · exact .inr ⟨fw_E hu, h⟩
  · refine TL.extract hF rfl rfl rfl ?_
    refine TL.nil ?_
    refine TQ.then_n ?_
    refine T.seq ?_
    refine T.cond_t rfl rfl ?_
    refine T.skip ?_
    refine TQ.then_n ?_
    refine T.block ?_
    refine T.seq ?_
    refine T.region ?_
    refine TL.entry hF rfl List.mem_cons_self (List.mem_cons_of_mem _ (List.mem_cons_of_mem _ hwm)) hwo hent12 (K := KU) (V := Value.bool) (p := p12) rfl ?_
    refine TL.extract hF rfl rfl rfl ?_
    refine TL.extract hF rfl rfl rfl ?_
    refine TL.alloc hF rfl (fun b3 => ?_)
    refine TL.storeAI hF [.int .i64 p12.1.1, .int .i64 p12.1.2] 0 rfl rfl rfl rfl (by simp [Value.oneCell']) (by simp [Value.cells]) ?_
    refine TL.assign hF rfl rfl ?_
    refine TL.nil ?_
    refine TQ.then_n ?_
    cases hd : p12.2
    · obtain ⟨hu, hpd⟩ := hw.ok.entry hwo.nd hp12
      obtain ⟨⟨ha0, han⟩, hb0, hbn⟩ := hU.rg _ _ hu
      refine T.draw ?_
      refine DR.stepV [_] rfl [(4, _, none)] rfl rfl ⟨⟨rfl, by kernel_rfl⟩, trivial⟩ (fun ext => TL.move hF rfl rfl TL.fin) ?_
      refine DR.stepV [_, _] rfl [(17, _, some 0)] rfl rfl ⟨⟨rfl, rfl, rfl⟩, trivial⟩ (fun ext => TL.not hF rfl rfl TL.fin) ?_
      refine DR.stepV [_, _, _] rfl [(18, _, some 1)] rfl rfl ⟨⟨rfl, rfl, rfl⟩, trivial⟩ (fun ext => TL.move hF rfl rfl TL.fin) ?_
      refine DR.stepV [_, _, _, _] rfl [(2, _, none), (19, _, some 2)] rfl rfl ⟨⟨rfl, by kernel_rfl⟩, ⟨rfl, rfl, rfl⟩, trivial⟩ (fun ext => TL.off hF rfl rfl rfl rfl rfl TL.fin) ?_
      refine DR.stepV [_, _, _, _, _] rfl [(3, _, none), (19, _, some 2)] rfl rfl ⟨⟨rfl, by kernel_rfl⟩, ⟨rfl, rfl, rfl⟩, trivial⟩ (fun ext => TL.off hF rfl rfl rfl rfl rfl TL.fin) ?_
      refine DR.stepV [_, _, _, _, _, _] rfl [(21, _, some 4), (19, _, some 2)] rfl rfl ⟨⟨rfl, rfl, rfl⟩, ⟨rfl, rfl, rfl⟩, trivial⟩ (fun ext => TL.off hF rfl rfl rfl rfl rfl TL.fin) ?_
      refine DR.stepV [_, _, _, _, _, _, _] rfl [(20, _, some 3), (22, _, some 5), (19, _, some 2)] rfl rfl ⟨⟨rfl, rfl, rfl⟩, ⟨rfl, rfl, rfl⟩, ⟨rfl, rfl, rfl⟩, trivial⟩ (fun ext => TL.off hF rfl rfl rfl rfl rfl TL.fin) ?_
      refine DR.stepV [_, _, _, _, _, _, _, _] rfl [(23, _, some 6), (19, _, some 2)] rfl rfl ⟨⟨rfl, rfl, rfl⟩, ⟨rfl, rfl, rfl⟩, trivial⟩ (fun ext => TL.off hF rfl rfl rfl rfl rfl TL.fin) ?_
      refine DR.stepV [_, _, _, _, _, _, _, _, _] rfl [(2, _, none), (19, _, some 2)] rfl rfl ⟨⟨rfl, by kernel_rfl⟩, ⟨rfl, rfl, rfl⟩, trivial⟩ (fun ext => TL.off hF rfl rfl rfl rfl rfl TL.fin) ?_
      refine DR.stepV [_, _, _, _, _, _, _, _, _, _] rfl [(3, _, none), (19, _, some 2)] rfl rfl ⟨⟨rfl, by kernel_rfl⟩, ⟨rfl, rfl, rfl⟩, trivial⟩ (fun ext => TL.off hF rfl rfl rfl rfl rfl TL.fin) ?_
      refine DR.stepV [_, _, _, _, _, _, _, _, _, _, _] rfl [(26, _, some 9), (19, _, some 2)] rfl rfl ⟨⟨rfl, rfl, rfl⟩, ⟨rfl, rfl, rfl⟩, trivial⟩ (fun ext => TL.off hF rfl rfl rfl rfl rfl TL.fin) ?_
      refine DR.stepV [_, _, _, _, _, _, _, _, _, _, _, _] rfl [(25, _, some 8), (27, _, some 10), (19, _, some 2)] rfl rfl ⟨⟨rfl, rfl, rfl⟩, ⟨rfl, rfl, rfl⟩, ⟨rfl, rfl, rfl⟩, trivial⟩ (fun ext => TL.off hF rfl rfl rfl rfl rfl TL.fin) ?_
      refine DR.stepV [_, _, _, _, _, _, _, _, _, _, _, _, _] rfl [(28, _, some 11), (19, _, some 2)] rfl rfl ⟨⟨rfl, rfl, rfl⟩, ⟨rfl, rfl, rfl⟩, trivial⟩ (fun ext => TL.off hF rfl rfl rfl rfl rfl TL.fin) ?_
      refine DR.done [(29, _), (28, _), (27, _), (26, _), (25, _), (24, _), (23, _), (22, _), (21, _), (20, _), (19, _), (18, _), (17, _)] [_, _, _] mixed (by kernel_rfl) (by kernel_rfl) (by kernel_rfl) rfl rfl ?_
      refine TL.off hF rfl rfl rfl rfl rfl ?_
      refine TL.pickT hF rfl rfl rfl rfl ?_
      refine TL.callM hF (must_fn _ 10) rfl rfl (fun h1 v32 => ?_) (fun h1 => ?_)
      · 
        refine TL.nil ?_
        refine TQ.block_n ?_
        have hlt := done_len hnd hsub hp12 hnd12
        refine TQ.pop ?_
        refine TQ.round (seen12, p12.1 :: done) ⟨hit12, List.nodup_cons.2 ⟨hnd12, hnd⟩, fun x hx => ?_, fun p hp hpd2 ht => ?_⟩ (by simp only [List.length_cons]; omega) ⟨rfl, rfl, trivial⟩ rfl
        · rcases List.mem_cons.1 hx with rfl | hx
          · exact List.mem_map.2 ⟨_, hp12, rfl⟩
          · exact hsub x hx
        · rcases List.mem_cons.1 hpd2 with he | hx
          · have h6 := mget_of_mem hwo.nd hp
            have h2 := mget_of_mem hwo.nd hp12
            rw [he, h2] at h6
            have h3 : p12.2 = p.2 := by simpa using h6
            rw [hd, ht] at h3; cases h3
          · exact hok p hp hx ht
      · cases h1
    · obtain ⟨hu, hpd⟩ := hw.ok.entry hwo.nd hp12
      obtain ⟨⟨ha0, han⟩, hb0, hbn⟩ := hU.rg _ _ hu
      refine T.draw ?_
      refine DR.stepV [_] rfl [(4, _, none)] rfl rfl ⟨⟨rfl, by kernel_rfl⟩, trivial⟩ (fun ext => TL.move hF rfl rfl TL.fin) ?_
      refine DR.stepV [_, _] rfl [(17, _, some 0)] rfl rfl ⟨⟨rfl, rfl, rfl⟩, trivial⟩ (fun ext => TL.not hF rfl rfl TL.fin) ?_
      refine DR.stepV [_, _, _] rfl [(18, _, some 1)] rfl rfl ⟨⟨rfl, rfl, rfl⟩, trivial⟩ (fun ext => TL.move hF rfl rfl TL.fin) ?_
      refine DR.stepV [_, _, _, _] rfl [(2, _, none), (19, _, some 2)] rfl rfl ⟨⟨rfl, by kernel_rfl⟩, ⟨rfl, rfl, rfl⟩, trivial⟩ (fun ext => TL.on rfl rfl rfl rfl <| TL.move hF rfl rfl TL.fin) ?_
      refine DR.stepV [_, _, _, _, _] rfl [(3, _, none), (19, _, some 2)] rfl rfl ⟨⟨rfl, by kernel_rfl⟩, ⟨rfl, rfl, rfl⟩, trivial⟩ (fun ext => TL.on rfl rfl rfl rfl <| TL.fieldAddr hF rfl rfl TL.fin) ?_
      refine DR.stepV [_, _, _, _, _, _] rfl [(21, _, some 4), (19, _, some 2)] rfl rfl ⟨⟨rfl, rfl, rfl⟩, ⟨rfl, rfl, rfl⟩, trivial⟩ (fun ext => TL.on rfl rfl rfl rfl <| TL.load hF rfl (own_list (i := 0) (cs := [.int .i64 p12.1.1, .int .i64 p12.1.2]) rfl 0 _ rfl) rfl TL.fin) ?_
      refine DR.stepV [_, _, _, _, _, _, _] rfl [(20, _, some 3), (22, _, some 5), (19, _, some 2)] rfl rfl ⟨⟨rfl, rfl, rfl⟩, ⟨rfl, rfl, rfl⟩, ⟨rfl, rfl, rfl⟩, trivial⟩ (fun ext => TL.on rfl rfl rfl rfl <| TL.indexAddr hF rfl rfl ⟨_, rfl, rfl⟩ (by omega) (by omega) rfl TL.fin) ?_
      refine DR.stepV [_, _, _, _, _, _, _, _] rfl [(23, _, some 6), (19, _, some 2)] rfl rfl ⟨⟨rfl, rfl, rfl⟩, ⟨rfl, rfl, rfl⟩, trivial⟩ (fun ext => TL.on rfl rfl rfl rfl <| TL.load hF rfl (iseg_at (f := (fun i => ((ofS (EN U) n i : Nat) : Int))) (n := n) (b := bo) (j := p12.1.1.toNat) (by simp) (by omega)) rfl TL.fin) ?_
      refine DR.stepV [_, _, _, _, _, _, _, _, _] rfl [(2, _, none), (19, _, some 2)] rfl rfl ⟨⟨rfl, by kernel_rfl⟩, ⟨rfl, rfl, rfl⟩, trivial⟩ (fun ext => TL.on rfl rfl rfl rfl <| TL.move hF rfl rfl TL.fin) ?_
      refine DR.stepV [_, _, _, _, _, _, _, _, _, _] rfl [(3, _, none), (19, _, some 2)] rfl rfl ⟨⟨rfl, by kernel_rfl⟩, ⟨rfl, rfl, rfl⟩, trivial⟩ (fun ext => TL.on rfl rfl rfl rfl <| TL.fieldAddr hF rfl rfl TL.fin) ?_
      refine DR.stepV [_, _, _, _, _, _, _, _, _, _, _] rfl [(26, _, some 9), (19, _, some 2)] rfl rfl ⟨⟨rfl, rfl, rfl⟩, ⟨rfl, rfl, rfl⟩, trivial⟩ (fun ext => TL.on rfl rfl rfl rfl <| TL.load hF rfl (own_list (i := 0) (cs := [.int .i64 p12.1.1, .int .i64 p12.1.2]) rfl 1 _ rfl) rfl TL.fin) ?_
      refine DR.stepV [_, _, _, _, _, _, _, _, _, _, _, _] rfl [(25, _, some 8), (27, _, some 10), (19, _, some 2)] rfl rfl ⟨⟨rfl, rfl, rfl⟩, ⟨rfl, rfl, rfl⟩, ⟨rfl, rfl, rfl⟩, trivial⟩ (fun ext => TL.on rfl rfl rfl rfl <| TL.indexAddr hF rfl rfl ⟨_, rfl, rfl⟩ (by omega) (by omega) rfl TL.fin) ?_
      refine DR.stepV [_, _, _, _, _, _, _, _, _, _, _, _, _] rfl [(28, _, some 11), (19, _, some 2)] rfl rfl ⟨⟨rfl, rfl, rfl⟩, ⟨rfl, rfl, rfl⟩, trivial⟩ (fun ext => TL.on rfl rfl rfl rfl <| TL.load hF rfl (iseg_at (f := (fun i => ((ofS (EN U) n i : Nat) : Int))) (n := n) (b := bo) (j := p12.1.2.toNat) (by simp) (by omega)) rfl TL.fin) ?_
      refine DR.done [(29, _), (28, _), (27, _), (26, _), (25, _), (24, _), (23, _), (22, _), (21, _), (20, _), (19, _), (18, _), (17, _)] [_, _, _] mixed (by kernel_rfl) (by kernel_rfl) (by kernel_rfl) rfl rfl ?_
      refine TL.on rfl rfl rfl rfl ?_
      refine TL.bin hF rfl rfl rfl rfl ?_
      refine TL.pickF hF rfl rfl rfl rfl ?_
      refine TL.callM hF (must_fn _ 10) rfl rfl (fun h1 v32 => ?_) (fun h1 => ?_)
      · 
        refine TL.nil ?_
        refine TQ.block_n ?_
        have hlt := done_len hnd hsub hp12 hnd12
        refine TQ.pop ?_
        refine TQ.round (seen12, p12.1 :: done) ⟨hit12, List.nodup_cons.2 ⟨hnd12, hnd⟩, fun x hx => ?_, fun p hp hpd2 ht => ?_⟩ (by simp only [List.length_cons]; omega) ⟨rfl, rfl, trivial⟩ rfl
        · rcases List.mem_cons.1 hx with rfl | hx
          · exact List.mem_map.2 ⟨_, hp12, rfl⟩
          · exact hsub x hx
        · rcases List.mem_cons.1 hpd2 with he | hx
          · have h6 := mget_of_mem hwo.nd hp
            have h2 := mget_of_mem hwo.nd hp12
            rw [he, h2] at h6
            rw [he]; have h4 := of_decide_eq_true h1; intro h5; exact h4 (by rw [h5])
          · exact hok p hp hx ht
      · skip
        refine TQ.block_p ?_
        refine TQ.then_p ?_
        refine TQ.block_p ?_
        have hof : ofS (EN U) n p12.1.1.toNat = ofS (EN U) n p12.1.2.toNat := by have := of_decide_eq_false h1; omega
        refine TQ.hsub η (List.Sublist.cons _ (List.Sublist.cons _ (List.Sublist.cons _ (List.Sublist.refl _)))) ?_
        refine TQ.panicE ⟨?_, rfl, rfl⟩
        rw [Bool.eq_false_iff]; intro hob
        have hb := ordB_iff.1 hob p12.1.1.toNat p12.1.2.toNat (by omega) (by omega) (by show U (p12.1.1.toNat : Nat) (p12.1.2.toNat : Nat) true = true; rw [show ((p12.1.1.toNat : Nat) : Int) = p12.1.1 by omega, show ((p12.1.2.toNat : Nat) : Int) = p12.1.2 by omega, ← hpd]; exact hd)
        rcases (ofS_eq (by omega) (by omega)).1 hof with h | h
        · exact hb (.inl h)
        · exact hb (.inr h.2)
end Go.Proofs.Ytdehpaikapbckaa
