/- What changes reach, by the program. -/
import Derived.Test.YtdehpaikapbckaaW19
namespace Go.Proofs.Ytdehpaikapbckaa
open Go.Sl
variable {S : Nat → Prop} {w0 : World} {η : Heap}
def ReachC (b3 b9 ob lb n : Nat) (fr : List Int) (E : Nat → Nat → Bool) (η : Heap) : Prop :=
  [(b3, Obj.cells #[.int .i64 (n : Int)] 3 (0, 0))] ∈ η ∧ [(b9, Obj.cells #[.slice (some ⟨ob, 0, none⟩) fr.length fr.length] 23 (0, 0))] ∈ η ∧ [(ob, Obj.cells (ints fr).toArray 3 (0, 0))] ∈ η ∧ gseg lb (gC E n n) ∈ η
theorem in_nats {n : Nat} {fr : List Int} (h : inAll n fr = true) {x : Int} (hx : x ∈ fr) : 0 ≤ x ∧ x < n := by simpa [inR] using inAll_iff.1 h x hx
theorem hits_eq {n k : Nat} {fr : List Int} {M : Nat → Nat → Bool} (h : inAll n fr = true) : hits M (fr.map Int.toNat) k = (decide ((k : Int) ∈ fr) || fr.any fun x => M k x.toNat) := by
  unfold hits
  rw [List.any_map]
  congr 1
  rw [Bool.eq_iff_iff]; simp only [decide_eq_true_eq, List.contains_iff_mem, List.mem_map]
  constructor
  · rintro ⟨x, hx, he⟩
    have := in_nats h hx
    have : x = (k : Int) := by omega
    rw [← this]; exact hx
  · intro h; exact ⟨_, h, by simp⟩

set_option maxHeartbeats 2000000 in
theorem reach_iter {b3 b9 ob lb n : Nat} {fr : List Int} {E : Nat → Nat → Bool} (hn : n ≤ 48) (hfl : fr.length < 2 ^ 63) (hin : inAll n fr = true) :
    Iter Try.prog 49 [] [ptr b3, ptr b9, ptr lb] (((List.range n).filter (hits (fwM E n) (fr.map Int.toNat))).map fun s : Nat => [Value.int .i64 (s : Int)]) S w0 (ReachC b3 b9 ob lb n fr E) := by
  intro l J X η hC hY h0
  have hF := open_wide
  refine Rt.of (fn := Try.f49) Try.func49 rfl rfl ?_
  refine T.seq ?_
  refine T.region ?_
  refine TL.load hF rfl (own_mem (hC _ _ h0).1 rfl) rfl ?_
  refine TL.move hF rfl rfl ?_
  refine TL.nil ?_
  refine TQ.then_n ?_
  refine T.block ?_
  refine T.loop (ι := Nat × Heap) (fun i => i.1 ≤ n ∧ J ((List.range i.1).filter (hits (fwM E n) (fr.map Int.toNat))).length i.2) (fun i => [(0, .func (.yield l) #[] #[]), (1, ptr b3), (2, ptr b9), (3, ptr lb), (7, .int .i64 (n : Int)), (8, .int .i64 (i.1 : Int))]) (fun i => i.2) (fun i => n - i.1) (0, η) ⟨Nat.zero_le _, h0⟩ ⟨rfl, rfl, rfl, rfl, rfl, rfl, trivial⟩ rfl ?_
  rintro ⟨k, η1⟩ ⟨hk1, hJ⟩
  simp only at hk1 hJ
  obtain ⟨hc1, hc2, hc3, hc4⟩ := hC _ _ hJ
  have hht := hits_eq (M := fwM E n) (k := k) hin
  refine T.seq ?_
  refine T.region ?_
  refine TL.bin hF rfl rfl rfl rfl ?_
  refine TL.nil ?_
  refine TQ.then_n ?_
  refine T.seq ?_
  first | refine T.cond_d rfl (fun ht9 => ?_) (fun ht9 => ?_) | refine T.cond _ rfl (fun ht9 => ?_) (fun ht9 => ?_)
  · refine T.skip ?_
    refine TQ.then_n ?_
    refine T.seq ?_
    refine T.block ?_
    refine T.seq ?_
    refine T.region ?_
    refine TL.move hF rfl rfl ?_
    refine TL.alloc hF rfl (fun b5 => ?_)
    refine TL.storeI hF 0 rfl rfl rfl rfl (by simp [Value.cells]) ?_
    refine TL.nil ?_
    refine TQ.then_n ?_
    refine T.seq ?_
    refine T.region ?_
    have hkn : k < n := by have h : (k : Int) < n := ht9; omega
    have hbits : ∀ (η2 : Heap), gseg lb (gC E n n) ∈ η2 → ∀ rb, [(rb, Obj.cells #[.int .i64 (k : Int)] 3 (0, 0))] ∈ η2 → ∀ x ∈ fr, Rt Try.prog 52 [.int .i64 x, ptr lb, ptr rb].toArray S w0 η2 (fun v η3 => v = .bool (fwM E n k x.toNat) ∧ η3 = η2) := by
      intro η2 h1 rb h2 x hx
      have h := in_nats hin hx
      obtain ⟨s, rfl⟩ : ∃ s : Nat, x = (s : Int) := ⟨x.toNat, by omega⟩
      rw [Int.toNat_natCast]
      exact reachBit_fn (E := E) hn hkn (by omega) h1 h2
    refine TL.load hF rfl (own_mem (upc _ hc2) rfl) rfl ?_
    refine TL.load hF rfl (by first | exact At.own' (i := 0) rfl rfl | exact At.own' (i := 1) rfl rfl | exact At.own' (i := 2) rfl rfl | exact At.own' (i := 3) rfl rfl | exact At.own' (i := 4) rfl rfl) rfl ?_
    refine TL.callV hF (Contains_fn (xs := fr) (k : Int) (row_own (upc _ hc3)) hfl) rfl rfl ?_
    refine TL.move hF rfl rfl ?_
    refine TL.gd (t := 14) rfl (fun g3_14 => ?_) (fun g3_14 => ?_)
    · refine TL.off hF rfl rfl rfl (decide_eq_true g3_14) rfl ?_
      refine TL.off hF rfl rfl rfl (decide_eq_true g3_14) rfl ?_
      refine TL.off hF rfl rfl rfl (decide_eq_true g3_14) rfl ?_
      refine TL.pickT hF rfl (decide_eq_true g3_14) rfl rfl ?_
      refine TL.assign hF rfl rfl ?_
      refine TL.nil ?_
      refine TQ.then_n ?_
      refine T.seq ?_
      refine T.region ?_
      refine TL.move hF rfl rfl ?_
      refine TL.move hF rfl rfl ?_
      refine TL.on rfl rfl rfl rfl ?_
      refine TL.move hF rfl rfl ?_
      refine TL.on rfl rfl rfl rfl ?_
      refine TL.load hF rfl (by first | exact At.own' (i := 0) rfl rfl | exact At.own' (i := 1) rfl rfl | exact At.own' (i := 2) rfl rfl | exact At.own' (i := 3) rfl rfl | exact At.own' (i := 4) rfl rfl) rfl ?_
      refine TL.on rfl rfl rfl rfl ?_
      have hp : (hits (fwM E n) (fr.map Int.toNat)) k = true := by rw [hht]; simp_all
      refine TL.hsub η1 (List.sublist_cons_self _ _) ?_
      refine TL.yield rfl rfl rfl (hY _ _ _ (filter_enc (p := (hits (fwM E n) (fr.map Int.toNat))) hkn hp) hJ) rfl (fun yb η2 hyb => ?_)
      refine TL.on rfl rfl rfl rfl ?_
      refine TL.not hF rfl rfl ?_
      refine TL.pickT hF rfl rfl rfl rfl ?_
      refine TL.nil ?_
      refine TQ.then_n ?_
      refine T.cond _ rfl (fun ht25 => ?_) (fun ht25 => ?_)
      · refine T.ret ?_
        refine TQ.block_r ?_
        refine TQ.then_r ?_
        refine TQ.then_r ?_
        refine TQ.block_r ?_
        refine TQ.rets [] _ rfl rfl rfl ?_
        have hyf : yb = false := by simpa using ht25
        subst hyf
        exact .inr hyb
      · refine T.skip ?_
        refine TQ.block_n ?_
        refine TQ.then_n ?_
        refine T.region ?_
        refine TL.add hF rfl rfl (by omega) (by omega) rfl ?_
        refine TL.move hF rfl rfl ?_
        refine TL.nil ?_
        have hyt : yb = true := by simpa using ht25
        subst hyt
        exact TQ.round (k + 1, η2) ⟨by simp only; omega, by simp only; rw [filter_succ, if_pos hp]; exact hyb⟩ (by simp only; omega) ⟨rfl, rfl, rfl, rfl, rfl, rfl, trivial⟩ rfl
    · refine TL.on rfl rfl rfl (decide_eq_false g3_14) ?_
      refine TL.load hF rfl (own_mem (upc _ hc2) rfl) rfl ?_
      refine TL.on rfl rfl rfl (decide_eq_false g3_14) ?_
      refine TL.makeFunc hF rfl rfl rfl ?_
      refine TL.on rfl rfl rfl (decide_eq_false g3_14) ?_
      refine TL.callV hF (ContainsFunc_fn (xs := fr) (p := fun x => fwM E n k x.toNat) (row_own (upc _ hc3)) hfl (hbits _ (upc _ hc4) _ List.mem_cons_self)) rfl rfl ?_
      refine TL.pickF hF rfl (decide_eq_false g3_14) rfl rfl ?_
      refine TL.assign hF rfl rfl ?_
      refine TL.nil ?_
      refine TQ.then_n ?_
      refine T.seq ?_
      refine T.region ?_
      refine TL.move hF rfl rfl ?_
      refine TL.move hF rfl rfl ?_
      refine TL.gb (t := 20) rfl (fun g4_20 => ?_) (fun g4_20 => ?_)
      · refine TL.on rfl rfl rfl g4_20 ?_
        refine TL.move hF rfl rfl ?_
        refine TL.on rfl rfl rfl g4_20 ?_
        refine TL.load hF rfl (by first | exact At.own' (i := 0) rfl rfl | exact At.own' (i := 1) rfl rfl | exact At.own' (i := 2) rfl rfl | exact At.own' (i := 3) rfl rfl | exact At.own' (i := 4) rfl rfl) rfl ?_
        refine TL.on rfl rfl rfl g4_20 ?_
        have hp : (hits (fwM E n) (fr.map Int.toNat)) k = true := by rw [hht]; simp_all
        refine TL.hsub η1 (List.sublist_cons_self _ _) ?_
        refine TL.yield rfl rfl rfl (hY _ _ _ (filter_enc (p := (hits (fwM E n) (fr.map Int.toNat))) hkn hp) hJ) rfl (fun yb η2 hyb => ?_)
        refine TL.on rfl rfl rfl g4_20 ?_
        refine TL.not hF rfl rfl ?_
        refine TL.pickT hF rfl g4_20 rfl rfl ?_
        refine TL.nil ?_
        refine TQ.then_n ?_
        refine T.cond _ rfl (fun ht25 => ?_) (fun ht25 => ?_)
        · refine T.ret ?_
          refine TQ.block_r ?_
          refine TQ.then_r ?_
          refine TQ.then_r ?_
          refine TQ.block_r ?_
          refine TQ.rets [] _ rfl rfl rfl ?_
          have hyf : yb = false := by simpa using ht25
          subst hyf
          exact .inr hyb
        · refine T.skip ?_
          refine TQ.block_n ?_
          refine TQ.then_n ?_
          refine T.region ?_
          refine TL.add hF rfl rfl (by omega) (by omega) rfl ?_
          refine TL.move hF rfl rfl ?_
          refine TL.nil ?_
          have hyt : yb = true := by simpa using ht25
          subst hyt
          exact TQ.round (k + 1, η2) ⟨by simp only; omega, by simp only; rw [filter_succ, if_pos hp]; exact hyb⟩ (by simp only; omega) ⟨rfl, rfl, rfl, rfl, rfl, rfl, trivial⟩ rfl
      · refine TL.off hF rfl rfl rfl g4_20 rfl ?_
        refine TL.off hF rfl rfl rfl g4_20 rfl ?_
        refine TL.off hF rfl rfl rfl g4_20 rfl ?_
        refine TL.off hF rfl rfl rfl g4_20 rfl ?_
        refine TL.pickF hF rfl g4_20 rfl rfl ?_
        refine TL.nil ?_
        refine TQ.then_n ?_
        refine T.cond_f rfl rfl ?_
        refine T.skip ?_
        refine TQ.block_n ?_
        refine TQ.then_n ?_
        refine T.region ?_
        refine TL.add hF rfl rfl (by omega) (by omega) rfl ?_
        refine TL.move hF rfl rfl ?_
        refine TL.nil ?_
        have hp : ¬ (hits (fwM E n) (fr.map Int.toNat)) k = true := by rw [hht]; simp_all
        refine TQ.pop ?_
        exact TQ.round (k + 1, η1) ⟨by simp only; omega, by simp only; rw [filter_succ, if_neg hp]; exact hJ⟩ (by simp only; omega) ⟨rfl, rfl, rfl, rfl, rfl, rfl, trivial⟩ rfl
  · refine T.exit ?_
    refine TQ.then_x ?_
    refine TQ.then_x ?_
    refine TQ.block_x ?_
    refine TQ.norm ?_
    refine TQ.rets [] _ rfl rfl rfl ?_
    have hkn : k = n := by have h : ¬ (k : Int) < n := ht9; omega
    subst hkn
    left; simpa using hJ
set_option maxHeartbeats 2000000 in
theorem Reach_prog {p fa : Option Addr} {rs : List RuleD} {fr : List Int} {c fc : Nat} (rels : Int) (hr : Rules S w0 [] p rs) (hl : rs.length < 2 ^ 63) (hbl : ∀ r ∈ rs, r.body.length < 2 ^ 63) (hfr : Row S w0 [] fa (ints fr)) (hfl : fr.length ≤ 1000) :
    Rt Try.prog 16 [.int .i64 rels, .slice p rs.length c, .slice fa fr.length fc].toArray S w0 η (fun v η' => ∃ a cap segs, v = .tuple #[.slice a (reachS rels rs fr).1.length cap, .int .i64 (reachS rels rs fr).2] ∧ η' = segs ++ η ∧ Row S w0 segs a (nats (reachS rels rs fr).1)) := by
  have hF := open_wide
  refine Rt.ofL (fn := Try.f16) Try.func16 rfl rfl ?_
  refine T.seq ?_
  refine T.region ?_
  refine TL.box hF rfl rfl (fun b3 => ?_)
  refine TL.assign hF rfl rfl ?_
  refine TL.alloc hF rfl (fun b7 => ?_)
  refine TL.nil ?_
  refine TQ.then_n ?_
  refine T.seq ?_
  refine T.region ?_
  refine TL.makeFunc hF rfl rfl rfl ?_
  refine TL.defer hF rfl rfl ?_
  refine TL.nil ?_
  refine TQ.then_n ?_
  refine T.seq ?_
  refine T.region ?_
  refine TL.load hF rfl (by first | exact At.own' (i := 0) rfl rfl | exact At.own' (i := 1) rfl rfl | exact At.own' (i := 2) rfl rfl | exact At.own' (i := 3) rfl rfl | exact At.own' (i := 4) rfl rfl) rfl ?_
  refine TL.move hF rfl rfl ?_
  refine TL.callE hF (opened_fn rels hr hl hbl) rfl rfl ?_ ?_
  · rintro _ _ ⟨hck, bw, bm, es, clock, m, rfl, rfl, hwo, hw⟩
    obtain ⟨hk1, hk2, hk3, hk4⟩ := check_ok hck
    obtain ⟨n, rfl⟩ : ∃ n : Nat, rels = (n : Int) := ⟨rels.toNat, by omega⟩
    have hU := uok hk4
    refine TL.assign hF rfl rfl ?_
    refine TL.nil ?_
    refine TQ.then_n ?_
    refine T.seq ?_
    refine T.region ?_
    refine TL.move hF rfl rfl ?_
    refine TL.len hF rfl rfl ?_
    refine TL.makeSlice hF (k := fr.length) rfl rfl rfl (by omega) (by omega) rfl (fun ob => ?_)
    refine TL.alloc hF rfl (fun b9 => ?_)
    first | refine TL.storeI hF 0 rfl rfl rfl rfl (by first | decide | simp) ?_ | refine TL.storeI hF 1 rfl rfl rfl rfl (by first | decide | simp) ?_ | refine TL.storeI hF 2 rfl rfl rfl rfl (by first | decide | simp) ?_ | refine TL.storeI hF 3 rfl rfl rfl rfl (by first | decide | simp) ?_
    refine TL.nil ?_
    refine TQ.then_n ?_
    refine T.seq ?_
    refine T.region ?_
    refine TL.load hF rfl (by first | exact At.own' (i := 0) rfl rfl | exact At.own' (i := 1) rfl rfl | exact At.own' (i := 2) rfl rfl | exact At.own' (i := 3) rfl rfl | exact At.own' (i := 4) rfl rfl) rfl ?_
    refine TL.move hF rfl rfl ?_
    refine TL.copy hF 1 (cs := List.replicate fr.length (.int .i64 0)) (e' := 3) (k := fr.length) (ints fr) (ints fr) rfl rfl rfl (by simp) hfr.ro (by simp) (by simp [Value.oneCell']) (by simp) (by simp) rfl ?_
    refine TL.nil ?_
    refine TQ.then_n ?_
    refine T.seq ?_
    refine T.seq ?_
    refine T.region ?_
    refine TL.load hF rfl (by first | exact At.own' (i := 0) rfl rfl | exact At.own' (i := 1) rfl rfl | exact At.own' (i := 2) rfl rfl | exact At.own' (i := 3) rfl rfl | exact At.own' (i := 4) rfl rfl) rfl ?_
    refine TL.len hF rfl rfl ?_
    refine TL.move hF rfl rfl ?_
    refine TL.nil ?_
    refine TQ.then_n ?_
    refine T.block ?_
    refine T.loop (ι := Nat) (fun k => k ≤ fr.length ∧ inAll n fr = inAll n (fr.drop k)) (fun k => [(3, ptr b3), (6, .slice none 0 0), (7, ptr b7), (8, ptr bw), (9, ptr b9), (23, .slice (some ⟨ob, 0, none⟩) fr.length fr.length), (24, .int .i64 (fr.length : Int)), (25, .int .i64 (k : Int))]) (fun _ => [(b9, .cells #[.slice (some ⟨ob, 0, none⟩) fr.length fr.length] 23 (0, 0))] :: [(ob, .cells (ints fr).toArray 3 (0, 0))] :: wseg bw bm (n : Int) :: [(bm, .map es clock)] :: [(b7, .cells #[.int .i64 0] 27 (0, 0))] :: [(b3, .cells #[.int .i64 (n : Int)] 3 (0, 0))] :: η) (fun k => fr.length - k) 0 ⟨Nat.zero_le _, by simp⟩ ⟨rfl, rfl, rfl, rfl, rfl, rfl, rfl, rfl, trivial⟩ rfl ?_
    rintro k ⟨hk, hs⟩
    have hrow : Row S w0 ([(b9, .cells #[.slice (some ⟨ob, 0, none⟩) fr.length fr.length] 23 (0, 0))] :: [(ob, .cells (ints fr).toArray 3 (0, 0))] :: wseg bw bm (n : Int) :: [(bm, .map es clock)] :: [(b7, .cells #[.int .i64 0] 27 (0, 0))] :: [(b3, .cells #[.int .i64 (n : Int)] 3 (0, 0))] :: η) (some ⟨ob, 0, none⟩) (ints fr) := row_own (e := 3) (by simp)
    refine T.seq ?_
    refine T.region ?_
    refine TL.bin hF rfl rfl rfl rfl ?_
    refine TL.nil ?_
    refine TQ.then_n ?_
    refine T.seq ?_
    first | refine T.cond_d rfl (fun ht26 => ?_) (fun ht26 => ?_) | refine T.cond _ rfl (fun ht26 => ?_) (fun ht26 => ?_)
    · refine T.skip ?_
      refine TQ.then_n ?_
      refine T.seq ?_
      refine T.block ?_
      refine T.seq ?_
      refine T.region ?_
      refine TL.indexAddr hF rfl rfl (hrow.adi (i := k) (by simp; omega)) (by omega) (by omega) rfl ?_
      refine TL.load hF rfl (hrow.int (i := k) (by omega)) rfl ?_
      refine TL.assign hF rfl rfl ?_
      refine TL.nil ?_
      refine TQ.then_n ?_
      refine T.region ?_
      refine TL.move hF rfl rfl ?_
      refine TL.build hF rfl (r := .agg #[.int .i64 (fr[k]'(by omega))]) (fun w => by kernel_rfl) rfl ?_
      refine TL.load hF rfl (own_mem (cs := #[.int .i64 (n : Int)]) (e := 3) (fz := (0, 0)) (by simp) rfl) rfl ?_
      refine TL.callM hF (headClear_fn (fr[k]'(by omega)) n) rfl rfl (fun hin v32 => ?_) (fun hin => ?_)
      · 
        refine TL.nil ?_
        refine TQ.block_n ?_
        refine TQ.then_n ?_
        refine T.region ?_
        refine TL.add hF rfl rfl (by omega) (by omega) rfl ?_
        refine TL.move hF rfl rfl ?_
        refine TL.nil ?_
        exact TQ.round (k + 1) ⟨by omega, by rw [hs, drop_step (by omega), inAll, hin, Bool.true_and]⟩ (by omega) ⟨rfl, rfl, rfl, rfl, rfl, rfl, rfl, rfl, trivial⟩ rfl
      · skip
        refine TQ.block_p ?_
        refine TQ.then_p ?_
        refine TQ.then_p ?_
        refine TQ.block_p ?_
        refine TQ.then_p ?_
        have hf : inAll n fr = false := by rw [hs, drop_step (by omega), inAll, hin, Bool.false_and]
        have e : reachS n rs fr = ([], 2) := by unfold reachS; rw [if_neg (by simpa using hck), if_pos hf]
        refine TQ.hsub ([(b7, .cells #[.int .i64 0] 27 (0, 0))] :: η) (List.Sublist.cons _ (List.Sublist.cons _ (List.Sublist.cons _ (List.Sublist.cons _ (List.Sublist.cons_cons _ (List.sublist_cons_self _ _)))))) ?_
        refine TQ.panL [6] [.slice none 0 0] stop45 (stopped_err 2) rfl rfl rfl (At.own' (i := 0) rfl rfl) ?_
        rw [e]
        exact ⟨none, 0, [[(b7, .cells #[.int .i64 2] 27 (0, 0))]], rfl, rfl, ⟨fun h => by simp at h, fun i v h => by simp at h⟩⟩
    · refine T.exit ?_
      refine TQ.then_x ?_
      refine TQ.then_x ?_
      refine TQ.block_x ?_
      refine TQ.then_n ?_
      refine T.seq ?_
      refine T.region ?_
      have hall : inAll n fr = true := by rw [hs, List.drop_of_length_le (by omega)]; rfl
      have hweb : Web ([(b9, .cells #[.slice (some ⟨ob, 0, none⟩) fr.length fr.length] 23 (0, 0))] :: [(ob, .cells (ints fr).toArray 3 (0, 0))] :: wseg bw bm (n : Int) :: [(bm, .map es clock)] :: [(b7, .cells #[.int .i64 0] 27 (0, 0))] :: [(b3, .cells #[.int .i64 (n : Int)] 3 (0, 0))] :: η) bw n (UR rs) m := ⟨⟨bm, es, clock, by simp, by simp, hwo⟩, hw⟩
      refine TL.move hF rfl rfl ?_
      refine TL.callV hF (leads_fn (n := n) (by omega) hweb) rfl rfl ?_
      refine TL.alloc hF rfl (fun b12 => ?_)
      rw [cells_rep 2304]
      refine TL.storeAs hF (rowC 2304 (gC (EN (UR rs)) n n)) (rowC 2304 (gC (EN (UR rs)) n n)) 0 (cs := List.replicate 2304 (.bool false)) rfl rfl rfl (rowC_len _ _) (rowC1 _ _) (by rw [List.length_replicate]; omega) (by rw [List.drop_of_length_le (by rw [List.length_replicate, rowC_len]; omega)]; simp) ?_
      refine TL.nil ?_
      refine TQ.then_n ?_
      refine T.seq ?_
      refine T.region ?_
      refine TL.makeFunc hF rfl rfl rfl ?_
      refine TL.call hF (listed_fn (cap := [ptr b3, ptr b9, ptr b12]) (reach_iter (E := EN (UR rs)) (n := n) (fr := fr) (ob := ob) (by omega) (by omega) hall) (fun η2 h => ⟨h _ (upc _ (upc _ (upc _ (upc _ (upc _ (upc _ List.mem_cons_self)))))), h _ (upc _ List.mem_cons_self), h _ (upc _ (upc _ List.mem_cons_self)), h _ List.mem_cons_self⟩) (by have h := List.length_filter_le (p := hits (fwM (EN (UR rs)) n) (fr.map Int.toNat)) (l := List.range n); simp at h; omega)) rfl rfl ?_
      rintro _ _ ⟨la, lc, lg, rfl, rfl, hlo⟩
      refine TL.assign hF rfl rfl ?_
      refine TL.storeI hF 6 rfl rfl rfl rfl (by simp) ?_
      refine TL.nil ?_
      refine TQ.then_n ?_
      refine T.ret ?_
      have e : reachS n rs fr = ((List.range n).filter (hits (fwM (EN (UR rs)) n) (fr.map Int.toNat)), 0) := by unfold reachS; rw [if_neg (by simpa using hck), if_neg (by simp [hall]), Int.toNat_natCast]
      refine TQ.hsub (lg :: [(b7, .cells #[.int .i64 0] 27 (0, 0))] :: η) (List.Sublist.cons_cons _ (List.Sublist.cons _ (List.Sublist.cons _ (List.Sublist.cons _ (List.Sublist.cons _ (List.Sublist.cons _ (List.Sublist.cons_cons _ (List.sublist_cons_self _ _)))))))) ?_
      refine TQ.retL [6] _ stop45 (stopped_nil _) rfl rfl rfl (own_mem (cs := #[.int .i64 0]) (e := 27) (fz := (0, 0)) (by simp) rfl) ?_
      rw [e]
      exact ⟨la, lc, [lg, [(b7, .cells #[.int .i64 0] 27 (0, 0))]], rfl, rfl, hlo.row (by simp)⟩
  · rintro _ _ ⟨hck, rfl, rfl⟩
    refine TQ.then_p ?_
    refine TQ.hsub ([(b7, .cells #[.int .i64 0] 27 (0, 0))] :: η) (List.Sublist.cons_cons _ (List.sublist_cons_self _ _)) ?_
    refine TQ.panL [6] [.slice none 0 0] stop45 (stopped_err _) rfl rfl rfl (At.own' (i := 0) rfl rfl) ?_
    have e : reachS rels rs fr = ([], check rels rs) := by unfold reachS; rw [if_pos hck]
    rw [e]
    exact ⟨none, 0, [[(b7, .cells #[.int .i64 (check rels rs)] 27 (0, 0))]], rfl, rfl, ⟨fun h => by simp at h, fun i v h => by simp at h⟩⟩
end Go.Proofs.Ytdehpaikapbckaa
