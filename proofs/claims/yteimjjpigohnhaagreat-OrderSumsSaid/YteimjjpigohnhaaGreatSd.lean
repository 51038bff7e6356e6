/- Several texts in one. -/
import Derived.Test.YteimjjpigohnhaaGreatSc
/- The frontier of what is beyond both. -/
namespace Go.Proofs.YteimjjpigohnhaaGreat
open Go.Sl
variable {S : Nat → Prop} {w0 : World} {η : Heap}
/-- The pairs of two lists, as they are yielded. -/
def pairE (qs us : List HL) : List (List Value) := qs.flatMap fun p => us.map fun r => [hc p, hc r]
theorem flat_at {α β : Type} (m : Nat) (f : α → List β) (hf : ∀ x, (f x).length = m) : ∀ (l : List α) (k j : Nat), j < m → (l.flatMap f)[k * m + j]? = (l[k]?).bind fun x => (f x)[j]?
 | [], k, j, _ => by simp
 | x :: l, 0, j, h => by
  rw [List.flatMap_cons, Nat.zero_mul, Nat.zero_add, List.getElem?_append_left (by rw [hf]; exact h)]; rfl
 | x :: l, k + 1, j, h => by
  rw [List.flatMap_cons, List.getElem?_append_right (by rw [hf, Nat.add_mul]; omega), hf, show (k + 1) * m + j - m = k * m + j by rw [Nat.add_mul]; omega, flat_at m f hf l k j h]; rfl
theorem flat_len {α β : Type} (m : Nat) (f : α → List β) (hf : ∀ x, (f x).length = m) : ∀ (l : List α), (l.flatMap f).length = l.length * m
 | [] => by simp
 | x :: l => by rw [List.flatMap_cons, List.length_append, hf, flat_len m f hf l, List.length_cons, Nat.add_mul]; omega
theorem pairE_at {qs us : List HL} {k j : Nat} (hk : k < qs.length) (hj : j < us.length) : (pairE qs us)[k * us.length + j]? = some [hc qs[k], hc us[j]] := by
 unfold pairE
 rw [flat_at us.length _ (fun x => by simp) qs k j hj, List.getElem?_eq_getElem hk]; simp [hj]
theorem pairE_len (qs us : List HL) : (pairE qs us).length = qs.length * us.length := flat_len _ _ (fun x => by simp) qs
theorem pairE_split {qs us : List HL} {i : Nat} (h : i < (pairE qs us).length) : ∃ k j, k < qs.length ∧ j < us.length ∧ i = k * us.length + j := by
 rw [pairE_len] at h
 have hu : 0 < us.length := Nat.pos_of_ne_zero (fun e => by rw [e] at h; simp at h)
 refine ⟨i / us.length, i % us.length, Nat.div_lt_of_lt_mul (by rw [Nat.mul_comm]; exact h), Nat.mod_lt _ hu, ?_⟩
 rw [Nat.mul_comm]; exact (Nat.div_add_mod i us.length).symm
theorem joins_at {qs us : List HL} {k j : Nat} (hk : k < qs.length) (hj : j < us.length) : (joinsT (tx qs) (tx us))[k * us.length + j]? = some (tjoin qs[k].2.1 us[j].2.1) := by
 unfold joinsT
 rw [flat_at us.length _ (fun x => by simp [tx]) (tx qs) k j hj]
 simp [tx, hk, hj]
theorem joins_len (qs us : List HL) : (joinsT (tx qs) (tx us)).length = qs.length * us.length := by unfold joinsT; rw [flat_len us.length _ (fun x => by simp [tx]), tx_len]
def PairC (a b : Option Addr) (c d m n b2 b3 : Nat) (η : Heap) : Prop := [(b2, Obj.cells #[.slice a m c] 71 (0, 0))] ∈ η ∧ [(b3, Obj.cells #[.slice b n d] 71 (0, 0))] ∈ η
set_option maxHeartbeats 2000000 in
theorem pairs_iter {a b : Option Addr} {c d b2 b3 : Nat} {qs us : List HL} (hx : LL S w0 [] a qs) (hy : LL S w0 [] b us) (hl : qs.length < 2 ^ 63) (hl2 : us.length < 2 ^ 63) :
  Iter Tryz.prog 131 [] [ptr b2, ptr b3] (pairE qs us) S w0 (PairC a b c d qs.length us.length b2 b3) := by
 intro yl J X η hC hY h0
 have hF := open_wide
 refine Rt.of (fn := Tryz.f131) Tryz.func131 rfl rfl ?_
 refine T.seq ?_
 refine T.region ?_
 refine TL.load hF rfl (own_mem (hC _ _ h0).1 rfl) rfl ?_
 refine TL.len hF rfl rfl ?_
 refine TL.move hF rfl rfl ?_
 refine TL.nil ?_
 refine TQ.then_n ?_
 refine T.block ?_
 refine T.loop (ι := Nat × Heap) (fun i => i.1 ≤ qs.length ∧ J (i.1 * us.length) i.2) (fun i => [(0, .func (.yield yl) #[] #[]), (2, ptr b3), (8, .slice a qs.length c), (9, .int .i64 (qs.length : Int)), (10, .int .i64 (i.1 : Int))]) (fun i => i.2) (fun i => qs.length - i.1) (0, η) ⟨Nat.zero_le _, by simpa using h0⟩ ⟨rfl, rfl, rfl, rfl, rfl, trivial⟩ rfl ?_
 rintro ⟨k, η1⟩ ⟨hk1, hJ⟩
 dsimp only at hk1 hJ
 refine T.seq ?_
 refine T.region ?_
 refine TL.bin hF rfl rfl rfl rfl ?_
 refine TL.nil ?_
 refine TQ.then_n ?_
 refine T.seq ?_
 first | refine T.cond_d rfl (fun ht11 => ?_) (fun ht11 => ?_) | refine T.cond _ rfl (fun ht11 => ?_) (fun ht11 => ?_)
 ·refine T.skip ?_
  refine TQ.then_n ?_
  refine T.seq ?_
  refine T.block ?_
  refine T.seq ?_
  refine T.region ?_
  refine TL.indexAddr hF rfl rfl (hx.ad (i := k) (by omega)) (by omega) (by omega) rfl ?_
  refine TL.load hF rfl (hx.ro.at (i := k) (by omega)) rfl ?_
  refine TL.assign hF rfl rfl ?_
  refine TL.nil ?_
  refine TQ.then_n ?_
  refine T.seq ?_
  refine T.region ?_
  refine TL.load hF rfl (own_mem (hC _ _ hJ).2 rfl) rfl ?_
  refine TL.len hF rfl rfl ?_
  refine TL.move hF rfl rfl ?_
  refine TL.nil ?_
  refine TQ.then_n ?_
  refine T.block ?_
  have hkl : k < qs.length := by omega
  refine T.loop (ι := Nat × Heap) (fun i => i.1 ≤ us.length ∧ J (k * us.length + i.1) i.2) (fun i => [(0, .func (.yield yl) #[] #[]), (2, ptr b3), (8, .slice a qs.length c), (9, .int .i64 (qs.length : Int)), (5, hc qs[k]), (10, .int .i64 (k : Int)), (14, .slice b us.length d), (15, .int .i64 (us.length : Int)), (16, .int .i64 (i.1 : Int))]) (fun i => i.2) (fun i => us.length - i.1) (0, η1) ⟨Nat.zero_le _, hJ⟩ ⟨rfl, rfl, rfl, rfl, rfl, rfl, rfl, rfl, rfl, trivial⟩ rfl ?_
  clear hJ
  rintro ⟨j, η2⟩ ⟨hj1, hJ⟩
  dsimp only at hj1 hJ
  refine T.seq ?_
  refine T.region ?_
  refine TL.bin hF rfl rfl rfl rfl ?_
  refine TL.nil ?_
  refine TQ.then_n ?_
  refine T.seq ?_
  first | refine T.cond_d rfl (fun ht17 => ?_) (fun ht17 => ?_) | refine T.cond _ rfl (fun ht17 => ?_) (fun ht17 => ?_)
  ·refine T.skip ?_
   refine TQ.then_n ?_
   refine T.seq ?_
   refine T.block ?_
   refine T.seq ?_
   refine T.region ?_
   refine TL.indexAddr hF rfl rfl (hy.ad (i := j) (by omega)) (by omega) (by omega) rfl ?_
   refine TL.load hF rfl (hy.ro.at (i := j) (by omega)) rfl ?_
   refine TL.assign hF rfl rfl ?_
   refine TL.nil ?_
   refine TQ.then_n ?_
   refine T.seq ?_
   refine T.region ?_
   refine TL.move hF rfl rfl ?_
   refine TL.move hF rfl rfl ?_
   refine TL.move hF rfl rfl ?_
   have hjl : j < us.length := by omega
   refine TL.yield rfl rfl rfl (hY _ _ _ (pairE_at hkl hjl) hJ) rfl (fun yb η3 hyb => ?_)
   refine TL.not hF rfl rfl ?_
   refine TL.nil ?_
   refine TQ.then_n ?_
   refine T.cond _ rfl (fun ht24 => ?_) (fun ht24 => ?_)
   ·refine T.ret ?_
    refine TQ.block_r ?_
    refine TQ.then_r ?_
    refine TQ.then_r ?_
    refine TQ.block_r ?_
    refine TQ.block_r ?_
    refine TQ.then_r ?_
    refine TQ.then_r ?_
    refine TQ.block_r ?_
    refine TQ.rets [] _ rfl rfl rfl ?_
    have hyf : yb = false := by simpa using ht24
    subst hyf
    exact .inr hyb
   ·refine T.skip ?_
    refine TQ.block_n ?_
    refine TQ.then_n ?_
    refine T.region ?_
    refine TL.add hF rfl rfl (by omega) (by omega) rfl ?_
    refine TL.move hF rfl rfl ?_
    refine TL.nil ?_
    have hyt : yb = true := by simpa using ht24
    subst hyt
    exact TQ.round (j + 1, η3) ⟨by dsimp only; omega, hyb⟩ (by dsimp only; omega) ⟨rfl, rfl, rfl, rfl, rfl, rfl, rfl, rfl, rfl, trivial⟩ rfl
  ·refine T.exit ?_
   refine TQ.then_x ?_
   refine TQ.then_x ?_
   refine TQ.block_x ?_
   refine TQ.block_n ?_
   refine TQ.then_n ?_
   refine T.region ?_
   refine TL.add hF rfl rfl (by omega) (by omega) rfl ?_
   refine TL.move hF rfl rfl ?_
   refine TL.nil ?_
   have hju : j = us.length := by omega
   refine TQ.round (k + 1, η2) ⟨by dsimp only; omega, ?_⟩ (by dsimp only; omega) ⟨rfl, rfl, rfl, rfl, rfl, trivial⟩ rfl
   have e : (k + 1) * us.length = k * us.length + j := by rw [Nat.add_mul]; omega
   dsimp only
   rw [e]; exact hJ
 ·refine T.exit ?_
  refine TQ.then_x ?_
  refine TQ.then_x ?_
  refine TQ.block_x ?_
  refine TQ.norm ?_
  refine TQ.rets [] _ rfl rfl rfl ?_
  left; rw [pairE_len, show qs.length = k by omega]; exact hJ
set_option maxHeartbeats 2000000 in
theorem pairs_fn {a b : Option Addr} {m n c d : Nat} :
  Rt Tryz.prog 95 [.slice a m c, .slice b n d].toArray S w0 η (fun v η' => ∃ b2 b3, v = .func (.func 131) #[] #[ptr b2, ptr b3] ∧ η' = [(b3, Obj.cells #[.slice b n d] 71 (0, 0))] :: [(b2, Obj.cells #[.slice a m c] 71 (0, 0))] :: η) := by
 have hF := open_wide
 refine Rt.of (fn := Tryz.f95) Tryz.func95 rfl rfl ?_
 refine T.seq ?_
 refine T.region ?_
 refine TL.box hF rfl rfl (fun b2 => ?_)
 refine TL.box hF rfl rfl (fun b3 => ?_)
 refine TL.assign hF rfl rfl ?_
 refine TL.nil ?_
 refine TQ.then_n ?_
 refine T.seq ?_
 refine T.region ?_
 refine TL.makeFunc hF rfl rfl rfl ?_
 refine TL.assign hF rfl rfl ?_
 refine TL.nil ?_
 refine TQ.then_n ?_
 refine T.ret ?_
 refine TQ.rets [4] _ rfl rfl rfl ?_
 exact ⟨b2, b3, rfl, rfl⟩
set_option maxHeartbeats 2000000 in
theorem Both_prog {a b : Option Addr} {ps rs : List HL} {c d : Nat} (hx : LL S w0 [] a ps) (hy : LL S w0 [] b rs) (hl : ps.length < 2 ^ 63) (hl2 : rs.length < 2 ^ 63) (hlx : ∀ p ∈ ps, p.2.1.length < 2 ^ 63) (hly : ∀ p ∈ rs, p.2.1.length < 2 ^ 63) :
  Rt Tryz.prog 34 [.slice a ps.length c, .slice b rs.length d].toArray S w0 η (ResL S w0 (bothS (tx ps) (tx rs)) η) := by
 have hF := open_wide
 refine Rt.ofL (fn := Tryz.f34) Tryz.func34 rfl rfl ?_
 refine T.seq ?_
 refine T.region ?_
 refine TL.assign hF rfl rfl ?_
 refine TL.alloc hF rfl (fun b5 => ?_)
 refine TL.nil ?_
 refine TQ.then_n ?_
 refine T.seq ?_
 refine T.region ?_
 refine TL.makeFunc hF rfl rfl rfl ?_
 refine TL.defer hF rfl rfl ?_
 refine TL.nil ?_
 refine TQ.then_n ?_
 refine T.seq ?_
 refine T.region ?_
 refine TL.move hF rfl rfl ?_
 refine TL.move hF rfl rfl ?_
 refine TL.buildSlice hF rfl (cs := #[gc (a, ps, c), gc (b, rs, d)]) (e := 32) (fun w => by kernel_rfl) rfl (fun b14 => ?_)
 refine TL.callE hF (listed_fn (gs := [(a, ps, c), (b, rs, d)]) (more := []) (b := none) (d := 0) (L3.two hx.ro hy.ro (row_own (cs := [gc (a, ps, c), gc (b, rs, d)]) (e := 32) (by simp))) LL.none (by simp) (by simp) (by rw [catG_two]; exact fun p hp => (List.mem_append.1 hp).elim (hlx p) (hly p)) (by simp) (fun g hg => by simp only [List.mem_cons, List.not_mem_nil, or_false] at hg; rcases hg with rfl | rfl; exact hl; exact hl2)) rfl rfl ?_ ?_
 ·rintro _ _ ⟨hB, rfl⟩
  obtain ⟨hl3, hl4, hfit⟩ := list2_ok hB
  have hl3 : ps.length ≤ 200 := hl3
  have hl4 : rs.length ≤ 200 := hl4
  obtain ⟨w, hw4, hwid⟩ := fit_wid hfit
  have hwp : Wid w (tx ps) := (wid_app hwid).1
  have hwr : Wid w (tx rs) := (wid_app hwid).2
  have hE := frontE_2 (f := ps) (g := rs) (gf := (a, ps, c)) (gg := (b, rs, d)) rfl rfl
  rw [if_pos hB] at hE
  refine TL.nil ?_
  refine TQ.then_n ?_
  refine T.seq ?_
  refine T.region ?_
  refine TL.move hF rfl rfl ?_
  refine TL.callE hF (frontier_gen hx hl3 hwp hw4) rfl rfl ?_ ?_
  ·rintro _ _ ⟨hfr, a2, c2, qs, segs, rfl, htq, rfl, hll, hcap⟩
   refine TL.freeze segs rfl (fun S1 w1 hz1 => ?_)
   have hq1 := hll.frz hz1
   have hy1 := hy.old hz1
   have hql := tx_len_eq htq
   refine TL.move hF rfl rfl ?_
   refine TL.callE hF (frontier_gen hy1 hl4 hwr hw4) rfl rfl ?_ ?_
   ·rintro _ _ ⟨hfr2, a3, c3, us, segs2, rfl, htu, rfl, hll2, hcap2⟩
    rw [if_pos ⟨hfr, hfr2⟩] at hE
    refine TL.freeze segs2 rfl (fun S2 w2 hz2 => ?_)
    have hq2 := hq1.old hz2
    have hu2 := hll2.frz hz2
    have hul := tx_len_eq htu
    have hwq : ∀ p ∈ qs, p.2.1.length = w := wid_tx (htq ▸ hwp)
    have hwu : ∀ p ∈ us, p.2.1.length = w := wid_tx (htu ▸ hwr)
    refine TL.alloc hF rfl (fun b6 => ?_)
    refine TL.alloc hF rfl (fun b7 => ?_)
    refine TL.storeAI hF [.slice a2 qs.length c2] 1 rfl rfl rfl rfl (by simp [Value.oneCell']) (by simp [Value.cells]) ?_
    refine TL.storeAI hF [.slice a3 us.length c3] 0 rfl rfl rfl rfl (by simp [Value.oneCell']) (by simp [Value.cells]) ?_
    refine TL.nil ?_
    refine TQ.then_n ?_
    refine T.seq ?_
    refine T.region ?_
    refine TL.alloc hF rfl (fun b8 => ?_)
    refine TL.nil ?_
    refine TQ.then_n ?_
    refine T.seq ?_
    refine T.seq ?_
    refine T.region ?_
    refine TL.fieldAddr hF rfl rfl ?_
    refine TL.load hF rfl (own_mem (e := 73) (fz := (0, 0)) (cs := #[.slice a2 qs.length c2]) (by simp [Value.cells]) rfl) rfl ?_
    refine TL.fieldAddr hF rfl rfl ?_
    refine TL.load hF rfl (own_mem (e := 73) (fz := (0, 0)) (cs := #[.slice a3 us.length c3]) (by simp [Value.cells]) rfl) rfl ?_
    refine TL.call hF pairs_fn rfl rfl ?_
    rintro _ _ ⟨b2, b3, rfl, rfl⟩
    refine TL.nil ?_
    refine TQ.then_n ?_
    refine T.block ?_
    refine T.hnil ?_
    refine T.pick [3, 0, 1, 2] [[], _, _, _] rfl rfl rfl ?_
    refine T.rangeFunc (fst := []) (cap := [ptr b2, ptr b3]) rfl (pairs_iter (c := c2) (d := c3) (b2 := b2) (b3 := b3) hq2 hu2 (by omega) (by omega)) (by
      intro e he; obtain ⟨p, _, he2⟩ := List.mem_flatMap.1 he; obtain ⟨r, _, rfl⟩ := List.mem_map.1 he2; rfl) (by simp) (fun i η1 => ∃ oa oc outs og, η1 = [(b8, Obj.cells #[.slice oa outs.length oc] 32 (0, 0))] :: og :: (outs.reverse.map (·.2) ++ ([(b3, Obj.cells #[.slice a3 us.length c3] 71 (0, 0))] :: [(b2, Obj.cells #[.slice a2 qs.length c2] 71 (0, 0))] :: [(b7, Obj.cells #[.slice a3 us.length c3] 73 (0, 0))] :: [(b6, Obj.cells #[.slice a2 qs.length c2] 73 (0, 0))] :: [(b14, Obj.cells #[gc (a, ps, c), gc (b, rs, d)] 32 (0, 0))] :: [(b5, Obj.cells #[.int .i64 0] ERR (0, 0))] :: η)) ∧ OL 22 (.slice oa outs.length oc) outs og ∧ outs.map (fun t => t.1.2.1) = (joinsT (tx qs) (tx us)).take i) (fun _ _ => False) ⟨none, 0, [], [], rfl, ⟨OSl.nil _ _, fun t ht => by simp at ht⟩, by simp⟩ ?_ ?_ ?_ ?_
    ·rintro i _ tl ⟨oa, oc, outs, og, rfl, _⟩
     exact ⟨by simp, by simp⟩
    ·rintro l tl tl' i e _ hie ⟨oa, oc, outs, og, rfl, hol, hto⟩
     have hF := open_round l
     have hil := (List.getElem?_eq_some_iff.1 hie).1
     obtain ⟨k, j, hkq, hju, hij⟩ := pairE_split hil
     have hee : e = [hc qs[k], hc us[j]] := by rw [hij, pairE_at hkq hju] at hie; exact (Option.some.inj hie).symm
     subst hee
     have hjo : (joinsT (tx qs) (tx us))[i]? = some (tjoin qs[k].2.1 us[j].2.1) := by rw [hij]; exact joins_at hkq hju
     have hjl := (List.getElem?_eq_some_iff.1 hjo).1
     have hjt : (joinsT (tx qs) (tx us)).take (i + 1) = (joinsT (tx qs) (tx us)).take i ++ [tjoin qs[k].2.1 us[j].2.1] := by rw [List.take_succ_eq_append_getElem hjl]; congr 1; rw [(List.getElem?_eq_some_iff.1 hjo).2]
     have hmul : qs.length * us.length ≤ 200 * 200 := Nat.mul_le_mul (by omega) (by omega)
     rw [joins_len] at hjl
     have houts : outs.length = i := by have := congrArg List.length hto; rw [List.length_map, List.length_take, joins_len] at this; omega
     have hlen : qs[k].2.1.length = us[j].2.1.length := (hwq _ (List.getElem_mem hkq)).trans (hwu _ (List.getElem_mem hju)).symm
     have hlw := hwq _ (List.getElem_mem hkq)
     refine T.seq ?_
     refine T.region ?_
     refine TL.assign hF rfl rfl ?_
     refine TL.nil ?_
     refine TQ.then_n ?_
     refine T.region ?_
     refine TL.assign hF rfl rfl ?_
     refine TL.nil ?_
     refine TQ.swapT _ rfl ?_
     refine T.block ?_
     refine T.drawH 5 mixed ?_
     refine DH.read (i := 0) [(8, _, none)] rfl rfl rfl rfl ⟨⟨rfl, by kernel_rfl⟩, trivial⟩ (fun ext => TL.load hF rfl (own_mem (e := 32) (fz := (0, 0)) (cs := #[.slice oa outs.length oc]) (by simp) rfl) rfl TL.fin) ?_
     refine DH.pure (i := 1) [(9, _, none)] rfl rfl rfl rfl ⟨⟨rfl, by kernel_rfl⟩, trivial⟩ (fun _ ext => TL.move hF rfl rfl TL.fin) ?_
     refine DH.pure (i := 2) [(10, _, none)] rfl rfl rfl rfl ⟨⟨rfl, by kernel_rfl⟩, trivial⟩ (fun _ ext => TL.move hF rfl rfl TL.fin) ?_
     refine DH.k1 (by kernel_rfl) (by kernel_rfl) (by kernel_rfl) (by kernel_rfl) (HBK.mk (h := 3) [0] [(28, _, some 1), (29, _, some 2)] rfl rfl rfl ⟨⟨rfl, rfl, rfl⟩, ⟨rfl, rfl, rfl⟩, trivial⟩ (by kernel_rfl) (fun ext => ?_))
     refine TL.call hF (join_fn (hq2.ro.it hkq) (hu2.ro.it hju) hlen (by omega)) rfl rfl ?_
     rintro _ _ ⟨g, rfl, rfl⟩
     refine TL.finK ⟨⟨_, rfl, _, _, [(8, _, none)], rfl, rfl, ⟨⟨rfl, by kernel_rfl⟩, trivial⟩, fun ext => TL.load hF rfl (own_mem (e := 32) (fz := (0, 0)) (cs := #[.slice oa outs.length oc]) (by simp) rfl) rfl TL.fin⟩, trivial⟩ ?_
     refine DH.k1 (by kernel_rfl) (by kernel_rfl) (by kernel_rfl) (by kernel_rfl) (HBK.mk (h := 4) [0] [(30, _, some 3)] rfl rfl rfl ⟨⟨rfl, rfl, rfl⟩, trivial⟩ (by kernel_rfl) (fun ext => ?_))
     refine TL.buildSlice hF rfl (cs := #[.slice (some ⟨g, 0, none⟩) qs[k].2.1.length qs[k].2.1.length]) (e := 22) (fun w => by kernel_rfl) rfl (fun b31 => ?_)
     refine TL.finK ⟨⟨_, rfl, _, _, [(8, _, none)], rfl, rfl, ⟨⟨rfl, by kernel_rfl⟩, trivial⟩, fun ext => TL.load hF rfl (own_mem (e := 32) (fz := (0, 0)) (cs := #[.slice oa outs.length oc]) (by simp) rfl) rfl TL.fin⟩, trivial⟩ ?_
     refine DH.done [(31, _), (30, _), (29, _), (28, _), (27, _)] [_, _] (by kernel_rfl) (by kernel_rfl) (by kernel_rfl) (by kernel_rfl) rfl rfl ?_
     refine TL.append hF 3 rfl rfl rfl hol.o (row_own (cs := [.slice (some ⟨g, 0, none⟩) qs[k].2.1.length qs[k].2.1.length]) (e := 22) (by simp)).src rfl rfl (by simp [Value.oneCell']) (by omega) (by omega) rfl (fun a' cap' seg' ho' => ?_)
     refine TL.storeI hF 2 rfl rfl rfl rfl (by simp) ?_
     refine TL.nil ?_
     refine TQ.block_n ?_
     have ejl : (tjoin qs[k].2.1 us[j].2.1).length = qs[k].2.1.length := tjoin_len hlen
     have e4 : outs.length + 1 = (outs ++ [(((some ⟨g, 0, none⟩, tjoin qs[k].2.1 us[j].2.1, qs[k].2.1.length) : HL), ([(g, Obj.cells (ints (tjoin qs[k].2.1 us[j].2.1)).toArray 3 (0, 0))] : Seg))]).length := by simp
     refine TQ.pick [2, 3, 1] [_, _, _, _] rfl rfl rfl ?_
     refine TQ.rq_n ([(b8, Obj.cells #[.slice a' (outs.length + 1) cap'] 32 (0, 0))] :: seg' :: [(g, Obj.cells (ints (tjoin qs[k].2.1 us[j].2.1)).toArray 3 (0, 0))] :: (outs.reverse.map (·.2) ++ ([(b3, Obj.cells #[.slice a3 us.length c3] 71 (0, 0))] :: [(b2, Obj.cells #[.slice a2 qs.length c2] 71 (0, 0))] :: [(b7, Obj.cells #[.slice a3 us.length c3] 73 (0, 0))] :: [(b6, Obj.cells #[.slice a2 qs.length c2] 73 (0, 0))] :: [(b14, Obj.cells #[gc (a, ps, c), gc (b, rs, d)] 32 (0, 0))] :: [(b5, Obj.cells #[.int .i64 0] ERR (0, 0))] :: η))) rfl ⟨a', cap', outs ++ [((some ⟨g, 0, none⟩, tjoin qs[k].2.1 us[j].2.1, qs[k].2.1.length), [(g, Obj.cells (ints (tjoin qs[k].2.1 us[j].2.1)).toArray 3 (0, 0))])], seg', by rw [← e4]; simp, ⟨?_, ?_⟩, ?_⟩
     ·rw [← e4, List.map_append]
      have e5 : hc (some ⟨g, 0, none⟩, tjoin qs[k].2.1 us[j].2.1, qs[k].2.1.length) = .slice (some ⟨g, 0, none⟩) qs[k].2.1.length qs[k].2.1.length := by simp only [hc]; rw [ejl]
      simp only [List.map_cons, List.map_nil]
      rw [e5]; exact ho'
     ·intro t ht
      rcases List.mem_append.1 ht with h | h
      ·exact hol.i t h
      ·rw [List.mem_singleton.1 h]
       have := osl_fresh (e := 3) (sz := 1) (n := qs[k].2.1.length) (b := g) (xs := ints (tjoin qs[k].2.1 us[j].2.1)) (by simp [ejl])
       simp only [hc]; rw [ejl]; exact this
     ·rw [List.map_append, hto, hjt]; rfl
    ·rintro mk _ ⟨oa, oc, outs, og, rfl, hol, hto⟩
     have hto2 : outs.map (fun t => t.1.2.1) = joinsT (tx qs) (tx us) := by rw [hto, List.take_of_length_le (by rw [pairE_len, joins_len]; exact Nat.le_refl _)]
     have htx2 : tx (outs.map (·.1)) = joinsT (tx ps) (tx rs) := by rw [← htq, ← htu, ← hto2]; simp [tx, List.map_map, Function.comp_def]
     have hmul : qs.length * us.length ≤ 200 * 200 := Nat.mul_le_mul (by omega) (by omega)
     have hol3 : outs.length ≤ 40000 := by have := congrArg List.length hto2; rw [List.length_map, joins_len] at this; omega
     have hwj : ∀ p ∈ outs.map (·.1), p.2.1.length = w := wid_tx (by
       rw [htx2]; intro x hx
       obtain ⟨y, hy, hx2⟩ := List.mem_flatMap.1 hx
       obtain ⟨z, hz, rfl⟩ := List.mem_map.1 hx2
       rw [tjoin_len ((hwp y hy).trans (hwr z hz).symm)]; exact hwp y hy)
     refine TQ.block_n ?_
     refine TQ.then_n ?_
     refine T.seq ?_
     refine T.region ?_
     refine TL.heap (η' := [(mk, Obj.deferred (some []))] :: (([(b8, Obj.cells #[.slice oa outs.length oc] 32 (0, 0))] :: og :: (outs.reverse.map (·.2) ++ [[(b3, Obj.cells #[.slice a3 us.length c3] 71 (0, 0))], [(b2, Obj.cells #[.slice a2 qs.length c2] 71 (0, 0))], [(b7, Obj.cells #[.slice a3 us.length c3] 73 (0, 0))], [(b6, Obj.cells #[.slice a2 qs.length c2] 73 (0, 0))], [(b14, Obj.cells #[gc (a, ps, c), gc (b, rs, d)] 32 (0, 0))]])) ++ ([(b5, Obj.cells #[.int .i64 0] ERR (0, 0))] :: η))) (by simp) ?_
     refine TL.hperm (([(b8, Obj.cells #[.slice oa outs.length oc] 32 (0, 0))] :: og :: (outs.reverse.map (·.2) ++ [[(b3, Obj.cells #[.slice a3 us.length c3] 71 (0, 0))], [(b2, Obj.cells #[.slice a2 qs.length c2] 71 (0, 0))], [(b7, Obj.cells #[.slice a3 us.length c3] 73 (0, 0))], [(b6, Obj.cells #[.slice a2 qs.length c2] 73 (0, 0))], [(b14, Obj.cells #[gc (a, ps, c), gc (b, rs, d)] 32 (0, 0))]])) ++ ([(mk, Obj.deferred (some []))] :: [(b5, Obj.cells #[.int .i64 0] ERR (0, 0))] :: η)) List.perm_middle ?_
     refine TL.load hF rfl (own_mem (e := 32) (fz := (0, 0)) (cs := #[.slice oa outs.length oc]) (by simp) rfl) rfl ?_
     refine TL.buildSlice hF rfl (cs := #[.slice oa outs.length oc]) (e := 32) (fun w => by kernel_rfl) rfl (fun b34 => ?_)
     have hl1 := hol.ll (S := S2) (w0 := w2) (η := [(b34, Obj.cells #[.slice oa outs.length oc] 32 (0, 0))] :: (([(b8, Obj.cells #[.slice oa outs.length oc] 32 (0, 0))] :: og :: (outs.reverse.map (·.2) ++ [[(b3, Obj.cells #[.slice a3 us.length c3] 71 (0, 0))], [(b2, Obj.cells #[.slice a2 qs.length c2] 71 (0, 0))], [(b7, Obj.cells #[.slice a3 us.length c3] 73 (0, 0))], [(b6, Obj.cells #[.slice a2 qs.length c2] 73 (0, 0))], [(b14, Obj.cells #[gc (a, ps, c), gc (b, rs, d)] 32 (0, 0))]])) ++ ([(mk, Obj.deferred (some []))] :: [(b5, Obj.cells #[.int .i64 0] ERR (0, 0))] :: η))) (by simp) (fun t ht => by simp only [List.mem_append, List.mem_cons, List.mem_map, List.mem_reverse]; right; left; right; right; left; exact ⟨t, ht, rfl⟩)
     have eg : ([gc (oa, outs.map (·.1), oc)] : List Value) = [.slice oa outs.length oc] := by simp [gc]
     refine TL.call hF (of_fn (L3.one (c := oc) hl1 (by rw [eg]; exact row_own (cs := [.slice oa outs.length oc]) (e := 32) List.mem_cons_self)) (by simp) (fun g hg => by rw [List.mem_singleton.1 hg]; show (outs.map _).length < _; rw [List.length_map]; omega) (by rw [catG_one]; show (outs.map _).length < _; rw [List.length_map]; omega) (w := w) (by rw [catG_one]; exact hwj) hw4) rfl rfl ?_
     rintro _ _ ⟨n3, m3, vs, segs3, rfl, htv, rfl, hll3, _⟩
     have htv2 : tx vs = sortT (joinsT (tx ps) (tx rs)) := by rw [htv, catG_one]; show sortT (tx (outs.map _)) = _; rw [htx2]
     have hwv : ∀ p ∈ vs, p.2.1.length = w := fun p hp => by
      have h1 : p.2.1 ∈ joinsT (tx ps) (tx rs) := mem_sortT.1 (htv2 ▸ List.mem_map_of_mem hp)
      rw [← htx2] at h1
      obtain ⟨q, hq, e⟩ := List.mem_map.1 h1
      rw [← e]; exact hwj q hq
     have hvl : vs.length ≤ 40000 := by have := sortT_len (joinsT (tx ps) (tx rs)); rw [← htv2, tx_len, ← htx2, tx_len, List.length_map] at this; omega
     refine TL.fieldR hF rfl (r := .slice n3 vs.length m3) (fun w => by kernel_rfl) rfl ?_
     refine TL.callV hF (earlier_fn) rfl rfl ?_
     refine TL.call hF (outerE (hll3.up (fun z hz => List.mem_append_left _ hz)) (by omega) hwv (by omega)) rfl rfl ?_
     rintro _ _ ⟨n5, m5, sg, rfl, ho5, rfl⟩
     refine TL.freeze (sg :: (segs3 ++ ([(b34, Obj.cells #[.slice oa outs.length oc] 32 (0, 0))] :: ([(b8, Obj.cells #[.slice oa outs.length oc] 32 (0, 0))] :: og :: (outs.reverse.map (·.2) ++ [[(b3, Obj.cells #[.slice a3 us.length c3] 71 (0, 0))], [(b2, Obj.cells #[.slice a2 qs.length c2] 71 (0, 0))], [(b7, Obj.cells #[.slice a3 us.length c3] 73 (0, 0))], [(b6, Obj.cells #[.slice a2 qs.length c2] 73 (0, 0))], [(b14, Obj.cells #[gc (a, ps, c), gc (b, rs, d)] 32 (0, 0))]]))))) (by simp only [List.append_assoc, List.cons_append]; rfl) (fun S3 w3 hz3 => ?_)
     have hr3 : LL S3 w3 [] n5 (outP tle vs) := ⟨(ho5.row (η := sg :: (segs3 ++ ([(b34, Obj.cells #[.slice oa outs.length oc] 32 (0, 0))] :: ([(b8, Obj.cells #[.slice oa outs.length oc] 32 (0, 0))] :: og :: (outs.reverse.map (·.2) ++ [[(b3, Obj.cells #[.slice a3 us.length c3] 71 (0, 0))], [(b2, Obj.cells #[.slice a2 qs.length c2] 71 (0, 0))], [(b7, Obj.cells #[.slice a3 us.length c3] 73 (0, 0))], [(b6, Obj.cells #[.slice a2 qs.length c2] 73 (0, 0))], [(b14, Obj.cells #[gc (a, ps, c), gc (b, rs, d)] 32 (0, 0))]]))))) List.mem_cons_self).frz hz3, fun p hp => ((hll3.up (η' := sg :: (segs3 ++ ([(b34, Obj.cells #[.slice oa outs.length oc] 32 (0, 0))] :: ([(b8, Obj.cells #[.slice oa outs.length oc] 32 (0, 0))] :: og :: (outs.reverse.map (·.2) ++ [[(b3, Obj.cells #[.slice a3 us.length c3] 71 (0, 0))], [(b2, Obj.cells #[.slice a2 qs.length c2] 71 (0, 0))], [(b7, Obj.cells #[.slice a3 us.length c3] 73 (0, 0))], [(b6, Obj.cells #[.slice a2 qs.length c2] 73 (0, 0))], [(b14, Obj.cells #[gc (a, ps, c), gc (b, rs, d)] 32 (0, 0))]]))))) (fun z hz => List.mem_cons_of_mem _ (List.mem_append_left _ hz))).item p (List.mem_filter.1 hp).1).frz hz3⟩
     have hrl : (outP tle vs).length ≤ vs.length := List.length_filter_le _ _
     refine TL.call hF (numbers_fn hr3.ro (by omega) (fun p hp => by rw [hwv p (List.mem_filter.1 hp).1]; omega)) rfl rfl ?_
     rintro _ _ ⟨n6, m6, o6, g6, rfl, hol6, hto6, rfl⟩
     refine TL.freeze (g6 :: o6.reverse.map (·.2)) rfl (fun S4 w4 hz4 => ?_)
     refine TL.assign hF rfl rfl ?_
     refine TL.storeI hF 1 rfl rfl rfl rfl (by decide) ?_
     refine TL.nil ?_
     refine TQ.then_n ?_
     refine T.ret ?_
     refine TQ.thaw hz4 ?_
     refine TQ.thaw hz3 ?_
     refine TQ.thaw hz2 ?_
     refine TQ.thaw hz1 ?_
     have e : bothS (tx ps) (tx rs) = (firstsT (joinsT (tx ps) (tx rs)), 0) := by unfold bothS; rw [hE, if_pos rfl]
     refine TQ.heap (η' := (segs ++ (segs2 ++ ((sg :: (segs3 ++ ([(b34, Obj.cells #[.slice oa outs.length oc] 32 (0, 0))] :: ([(b8, Obj.cells #[.slice oa outs.length oc] 32 (0, 0))] :: og :: (outs.reverse.map (·.2) ++ [[(b3, Obj.cells #[.slice a3 us.length c3] 71 (0, 0))], [(b2, Obj.cells #[.slice a2 qs.length c2] 71 (0, 0))], [(b7, Obj.cells #[.slice a3 us.length c3] 73 (0, 0))], [(b6, Obj.cells #[.slice a2 qs.length c2] 73 (0, 0))], [(b14, Obj.cells #[gc (a, ps, c), gc (b, rs, d)] 32 (0, 0))]]))))) ++ (g6 :: o6.reverse.map (·.2))))) ++ [(mk, Obj.deferred (some []))] :: ([(b5, Obj.cells #[.int .i64 0] ERR (0, 0))] :: η)) (by simp only [List.append_assoc, List.cons_append]; rfl) ?_
     refine TQ.hperm ([(mk, Obj.deferred (some []))] :: ((segs ++ (segs2 ++ ((sg :: (segs3 ++ ([(b34, Obj.cells #[.slice oa outs.length oc] 32 (0, 0))] :: ([(b8, Obj.cells #[.slice oa outs.length oc] 32 (0, 0))] :: og :: (outs.reverse.map (·.2) ++ [[(b3, Obj.cells #[.slice a3 us.length c3] 71 (0, 0))], [(b2, Obj.cells #[.slice a2 qs.length c2] 71 (0, 0))], [(b7, Obj.cells #[.slice a3 us.length c3] 73 (0, 0))], [(b6, Obj.cells #[.slice a2 qs.length c2] 73 (0, 0))], [(b14, Obj.cells #[gc (a, ps, c), gc (b, rs, d)] 32 (0, 0))]]))))) ++ (g6 :: o6.reverse.map (·.2))))) ++ ([(b5, Obj.cells #[.int .i64 0] ERR (0, 0))] :: η))) List.perm_middle.symm ?_
     refine TQ.mark (i := 0) (.inl rfl) rfl ?_
     refine TQ.retL [4] _ stop94 (stopped_nil _) rfl rfl rfl (own_mem (e := ERR) (fz := (0, 0)) (cs := #[.int .i64 0]) (by simp) rfl) ?_
     rw [e]
     refine ⟨n6, m6, o6.map (·.1), [(mk, Obj.deferred none)] :: ((segs ++ (segs2 ++ ((sg :: (segs3 ++ ([(b34, Obj.cells #[.slice oa outs.length oc] 32 (0, 0))] :: ([(b8, Obj.cells #[.slice oa outs.length oc] 32 (0, 0))] :: og :: (outs.reverse.map (·.2) ++ [[(b3, Obj.cells #[.slice a3 us.length c3] 71 (0, 0))], [(b2, Obj.cells #[.slice a2 qs.length c2] 71 (0, 0))], [(b7, Obj.cells #[.slice a3 us.length c3] 73 (0, 0))], [(b6, Obj.cells #[.slice a2 qs.length c2] 73 (0, 0))], [(b14, Obj.cells #[gc (a, ps, c), gc (b, rs, d)] 32 (0, 0))]]))))) ++ (g6 :: o6.reverse.map (·.2))))) ++ [[(b5, Obj.cells #[.int .i64 0] ERR (0, 0))]]), by rw [List.length_map]; rfl, by rw [show firstsT (joinsT (tx ps) (tx rs)) = tx (outP tle vs) from (tx_outer htv2).symm]; simpa [tx, List.map_map, Function.comp_def] using hto6, hol6.ll (List.mem_cons_of_mem _ (List.mem_append_left _ (List.mem_append_right _ (List.mem_append_right _ (List.mem_append_right _ List.mem_cons_self))))) (fun t ht => List.mem_cons_of_mem _ (List.mem_append_left _ (List.mem_append_right _ (List.mem_append_right _ (List.mem_append_right _ (List.mem_cons_of_mem _ (List.mem_map_of_mem (List.mem_reverse.2 ht)))))))), by simp only [List.append_assoc, List.cons_append]; rfl⟩
    ·rintro _ _ _ h; exact h.elim
   ·rintro _ _ ⟨hfr2, rfl, rfl⟩
    rw [if_neg (fun q => hfr2 q.2)] at hE
    refine TQ.then_p ?_
    refine TQ.thaw hz1 ?_
    refine TQ.hsub ([(b5, Obj.cells #[.int .i64 0] ERR (0, 0))] :: η) (subR sub1) ?_
    refine TQ.panL [4] [.slice none 0 0] stop94 (stopped_err _) rfl rfl rfl (At.own' (i := 0) rfl rfl) ?_
    have e : bothS (tx ps) (tx rs) = ([], 1) := by unfold bothS; rw [hE, if_neg (by decide)]
    rw [e]
    exact ⟨none, 0, [], [_], rfl, rfl, LL.none, rfl⟩
  ·rintro _ _ ⟨hfr, rfl, rfl⟩
   rw [if_neg (fun q => hfr q.1)] at hE
   refine TQ.then_p ?_
   refine TQ.pop ?_
   refine TQ.panL [4] [.slice none 0 0] stop94 (stopped_err _) rfl rfl rfl (At.own' (i := 0) rfl rfl) ?_
   have e : bothS (tx ps) (tx rs) = ([], 1) := by unfold bothS; rw [hE, if_neg (by decide)]
   rw [e]
   exact ⟨none, 0, [], [_], rfl, rfl, LL.none, rfl⟩
 ·rintro _ _ ⟨hB, rfl, rfl⟩
  have hE := frontE_2 (f := ps) (g := rs) (gf := (a, ps, c)) (gg := (b, rs, d)) rfl rfl
  rw [if_neg (by intro h; rw [h] at hB; rcases hB with q | q <;> cases q)] at hE
  refine TQ.then_p ?_
  refine TQ.pop ?_
  refine TQ.panL [4] [.slice none 0 0] stop94 (stopped_err _) rfl rfl rfl (At.own' (i := 0) rfl rfl) ?_
  rw [← hE]
  have e : bothS (tx ps) (tx rs) = ([], frontE (tx ps) (tx rs) []) := by unfold bothS; rw [if_neg (by intro h; rw [h] at hE; rw [← hE] at hB; rcases hB with q | q <;> cases q)]
  rw [e]
  exact ⟨none, 0, [], [_], rfl, rfl, LL.none, rfl⟩
end Go.Proofs.YteimjjpigohnhaaGreat
/- The reference: times. -/
namespace Go.Proofs.YteimjjpigohnhaaGreat
open Go.Sl
variable {S : Nat → Prop} {w0 : World} {η : Heap}
set_option maxHeartbeats 2000000 in
theorem IsTime_fn {a : Option Addr} {t : List Int} {c : Nat} (hx : Row S w0 η a (ints t)) (hl : t.length < 2 ^ 63) :
  Rt Tryz.prog 103 [.slice a t.length c].toArray S w0 η (fun v η' => v = .bool (isT t) ∧ η' = η) := by
 have hF := open_wide
 refine Rt.of (fn := Tryz.f103) Tryz.func103 rfl rfl ?_
 refine T.seq ?_
 refine T.region ?_
 refine TL.assign hF rfl rfl ?_
 refine TL.nil ?_
 refine TQ.then_n ?_
 refine T.seq ?_
 refine T.region ?_
 refine TL.move hF rfl rfl ?_
 refine TL.len hF rfl rfl ?_
 refine TL.callV hF (Lies_fn _ _ _) rfl rfl ?_
 refine TL.assign hF rfl rfl ?_
 refine TL.nil ?_
 refine TQ.then_n ?_
 refine T.seq ?_
 refine T.seq ?_
 refine T.region ?_
 refine TL.assign hF rfl rfl ?_
 refine TL.nil ?_
 refine TQ.then_n ?_
 refine T.block ?_
 refine T.loop (ι := Nat × Bool) (fun i => i.1 ≤ t.length ∧ isT t = (i.2 && (t.drop i.1).all numOk)) (fun i => [(0, .slice a t.length c), (3, .bool i.2), (4, .int .i64 (i.1 : Int))]) (fun _ => η) (fun i => t.length - i.1) (0, decide ((1 : Int) ≤ t.length) && decide ((t.length : Int) ≤ 4)) ⟨Nat.zero_le _, ?_⟩ ⟨rfl, rfl, rfl, trivial⟩ rfl ?_
 ·unfold isT
  rw [show decide ((1 : Int) ≤ (t.length : Int)) = decide (1 ≤ t.length) from by rw [Bool.eq_iff_iff, decide_eq_true_eq, decide_eq_true_eq]; omega, show decide ((t.length : Int) ≤ 4) = decide (t.length ≤ 4) from by rw [Bool.eq_iff_iff, decide_eq_true_eq, decide_eq_true_eq]; omega]; rfl
 rintro ⟨k, ok⟩ ⟨hk, hs⟩
 dsimp only at hk hs
 refine T.seq ?_
 refine T.seq ?_
 refine T.region ?_
 refine TL.move hF rfl rfl ?_
 refine TL.move hF rfl rfl ?_
 refine TL.gb (t := 9) rfl (fun g3_9 => ?_) (fun g3_9 => ?_)
 ·refine TL.on rfl rfl rfl g3_9 ?_
  refine TL.move hF rfl rfl ?_
  refine TL.on rfl rfl rfl g3_9 ?_
  refine TL.move hF rfl rfl ?_
  refine TL.on rfl rfl rfl g3_9 ?_
  refine TL.len hF rfl rfl ?_
  refine TL.on rfl rfl rfl g3_9 ?_
  refine TL.bin hF rfl rfl rfl rfl ?_
  refine TL.pickT hF rfl g3_9 rfl rfl ?_
  refine TL.nil ?_
  refine TQ.then_n ?_
  first | refine T.cond_d rfl (fun ht14 => ?_) (fun ht14 => ?_) | refine T.cond _ rfl (fun ht14 => ?_) (fun ht14 => ?_)
  ·refine T.skip ?_
   refine TQ.then_n ?_
   refine T.seq ?_
   refine T.block ?_
   refine T.region ?_
   refine TL.move hF rfl rfl ?_
   refine TL.move hF rfl rfl ?_
   refine TL.indexAddr hF rfl rfl (hx.adi (i := k) (by simp; omega)) (by omega) (by omega) rfl ?_
   refine TL.load hF rfl (hx.int (i := k) (by omega)) rfl ?_
   refine TL.callV hF (Lies_fn _ _ _) rfl rfl ?_
   refine TL.assign hF rfl rfl ?_
   refine TL.nil ?_
   refine TQ.block_n ?_
   refine TQ.then_n ?_
   refine T.region ?_
   refine TL.move hF rfl rfl ?_
   refine TL.add hF rfl rfl (by omega) (by omega) rfl ?_
   refine TL.assign hF rfl rfl ?_
   refine TL.nil ?_
   subst g3_9
   refine TQ.round (k + 1, numOk (t[k]'(by omega))) ⟨by dsimp only; omega, by dsimp only; rw [hs, drop_step (l := t) (by omega), List.all_cons, Bool.true_and]⟩ (by dsimp only; omega) ⟨rfl, rfl, rfl, trivial⟩ rfl
  ·refine T.exit ?_
   refine TQ.then_x ?_
   refine TQ.then_x ?_
   refine TQ.block_x ?_
   refine TQ.then_n ?_
   refine T.seq ?_
   refine T.region ?_
   refine TL.move hF rfl rfl ?_
   refine TL.assign hF rfl rfl ?_
   refine TL.nil ?_
   refine TQ.then_n ?_
   refine T.ret ?_
   refine TQ.rets [2] _ rfl rfl rfl ?_
   subst g3_9
   exact ⟨by rw [hs, List.drop_of_length_le (by omega)]; rfl, rfl⟩
 ·refine TL.off hF rfl rfl rfl g3_9 rfl ?_
  refine TL.off hF rfl rfl rfl g3_9 rfl ?_
  refine TL.off hF rfl rfl rfl g3_9 rfl ?_
  refine TL.off hF rfl rfl rfl g3_9 rfl ?_
  refine TL.pickF hF rfl g3_9 rfl rfl ?_
  refine TL.nil ?_
  refine TQ.then_n ?_
  refine T.cond_f rfl rfl ?_
  refine T.exit ?_
  refine TQ.then_x ?_
  refine TQ.then_x ?_
  refine TQ.block_x ?_
  refine TQ.then_n ?_
  refine T.seq ?_
  refine T.region ?_
  refine TL.move hF rfl rfl ?_
  refine TL.assign hF rfl rfl ?_
  refine TL.nil ?_
  refine TQ.then_n ?_
  refine T.ret ?_
  refine TQ.rets [2] _ rfl rfl rfl ?_
  subst g3_9
  exact ⟨by rw [hs]; rfl, rfl⟩
theorem fitW_consT (w : Nat) (t : Tm) (l : List Tm) : fitW w (t :: l) = (isT t && decide (t.length = w) && fitW w l) := by
 rw [fitW, List.all_cons]; rfl
set_option maxHeartbeats 2000000 in
theorem Times_fn {a : Option Addr} {ps : List HL} {c : Nat} (hx : LL S w0 η a ps) (hl : ps.length < 2 ^ 63) (hlx : ∀ p ∈ ps, p.2.1.length < 2 ^ 63) :
  Rt Tryz.prog 47 [.slice a ps.length c].toArray S w0 η (fun v η' => v = .int .i64 (timesE (tx ps)) ∧ η' = η) := by
 have hF := open_wide
 refine Rt.of (fn := Tryz.f47) Tryz.func47 rfl rfl ?_
 refine T.seq ?_
 refine T.region ?_
 refine TL.assign hF rfl rfl ?_
 refine TL.nil ?_
 refine TQ.then_n ?_
 refine T.seq ?_
 refine T.seq ?_
 refine T.region ?_
 refine TL.move hF rfl rfl ?_
 refine TL.len hF rfl rfl ?_
 refine TL.bin hF rfl rfl rfl rfl ?_
 refine TL.nil ?_
 refine TQ.then_n ?_
 first | refine T.cond_d rfl (fun ht6 => ?_) (fun ht6 => ?_) | refine T.cond _ rfl (fun ht6 => ?_) (fun ht6 => ?_)
 ·refine T.seq ?_
  refine T.region ?_
  refine TL.assign hF rfl rfl ?_
  refine TL.nil ?_
  refine TQ.then_n ?_
  refine T.ret ?_
  refine TQ.then_r ?_
  refine TQ.rets [2] _ rfl rfl rfl ?_
  exact ⟨by unfold timesE; rw [tx_len, if_pos (by omega)]; rfl, rfl⟩
 ·refine T.skip ?_
  refine TQ.then_n ?_
  refine T.seq ?_
  refine T.seq ?_
  refine T.region ?_
  refine TL.assign hF rfl rfl ?_
  refine TL.nil ?_
  refine TQ.then_n ?_
  refine T.block ?_
  refine T.loop (ι := Nat) (fun k => k ≤ ps.length ∧ fitT (tx ps) = fitW ((tx ps).headD []).length ((tx ps).drop k)) (fun k => [(0, .slice a ps.length c), (3, .int .i64 (k : Int))]) (fun _ => η) (fun k => ps.length - k) 0 ⟨Nat.zero_le _, by simp [fitT]⟩ ⟨rfl, rfl, trivial⟩ rfl ?_
  rintro k ⟨hk, hs⟩
  refine T.seq ?_
  refine T.seq ?_
  refine T.region ?_
  refine TL.move hF rfl rfl ?_
  refine TL.move hF rfl rfl ?_
  refine TL.len hF rfl rfl ?_
  refine TL.bin hF rfl rfl rfl rfl ?_
  refine TL.nil ?_
  refine TQ.then_n ?_
  first | refine T.cond_d rfl (fun ht10 => ?_) (fun ht10 => ?_) | refine T.cond _ rfl (fun ht10 => ?_) (fun ht10 => ?_)
  ·refine T.skip ?_
   refine TQ.then_n ?_
   refine T.seq ?_
   refine T.block ?_
   refine T.seq ?_
   have hkl : k < ps.length := by omega
   rw [tx_drop hkl, fitW_consT, tx_head (by omega)] at hs
   rcases hit : isT ps[k].2.1 with _ | _
   ·refine T.draw ?_
    refine DR.stepV [_] rfl [(0, _, none)] rfl rfl ⟨⟨rfl, by kernel_rfl⟩, trivial⟩ (fun ext => TL.move hF rfl rfl TL.fin) ?_
    refine DR.stepV [_, _] rfl [(3, _, none)] rfl rfl ⟨⟨rfl, by kernel_rfl⟩, trivial⟩ (fun ext => TL.move hF rfl rfl TL.fin) ?_
    refine DR.stepV [_, _, _] rfl [(13, _, some 0), (14, _, some 1)] rfl rfl ⟨⟨rfl, rfl, rfl⟩, ⟨rfl, rfl, rfl⟩, trivial⟩ (fun ext => TL.indexAddr hF rfl rfl (hx.ad (i := k) (by omega)) (by omega) (by omega) rfl TL.fin) ?_
    refine DR.stepV [_, _, _, _] rfl [(15, _, some 2)] rfl rfl ⟨⟨rfl, rfl, rfl⟩, trivial⟩ (fun ext => TL.load hF rfl (hx.at (i := k) (by omega)) rfl TL.fin) ?_
    refine DR.stepV [_, _, _, _, _] rfl [(16, _, some 3)] rfl rfl ⟨⟨rfl, rfl, rfl⟩, trivial⟩ (fun ext => TL.callV hF (IsTime_fn (hx.it (i := k) (by omega)) (hlx _ (List.getElem_mem _))) rfl rfl TL.fin) ?_
    refine DR.stepV [_, _, _, _, _, _] rfl [(17, _, some 4)] rfl rfl ⟨⟨rfl, rfl, rfl⟩, trivial⟩ (fun ext => TL.not hF rfl rfl TL.fin) ?_
    refine DR.stepV [_, _, _, _, _, _, _] rfl [(18, _, some 5)] rfl rfl ⟨⟨rfl, rfl, rfl⟩, trivial⟩ (fun ext => TL.move hF rfl rfl TL.fin) ?_
    refine DR.stepV [_, _, _, _, _, _, _, _] rfl [(0, _, none), (19, _, some 6)] rfl rfl ⟨⟨rfl, by kernel_rfl⟩, ⟨rfl, rfl, rfl⟩, trivial⟩ (fun ext => TL.off hF rfl rfl rfl (by rw [hit] <;> rfl) rfl TL.fin) ?_
    refine DR.stepV [_, _, _, _, _, _, _, _, _] rfl [(3, _, none), (19, _, some 6)] rfl rfl ⟨⟨rfl, by kernel_rfl⟩, ⟨rfl, rfl, rfl⟩, trivial⟩ (fun ext => TL.off hF rfl rfl rfl (by rw [hit] <;> rfl) rfl TL.fin) ?_
    refine DR.stepV [_, _, _, _, _, _, _, _, _, _] rfl [(20, _, some 7), (21, _, some 8), (19, _, some 6)] rfl rfl ⟨⟨rfl, rfl, rfl⟩, ⟨rfl, rfl, rfl⟩, ⟨rfl, rfl, rfl⟩, trivial⟩ (fun ext => TL.off hF rfl rfl rfl (by rw [hit] <;> rfl) rfl TL.fin) ?_
    refine DR.stepV [_, _, _, _, _, _, _, _, _, _, _] rfl [(22, _, some 9), (19, _, some 6)] rfl rfl ⟨⟨rfl, rfl, rfl⟩, ⟨rfl, rfl, rfl⟩, trivial⟩ (fun ext => TL.off hF rfl rfl rfl (by rw [hit] <;> rfl) rfl TL.fin) ?_
    refine DR.stepV [_, _, _, _, _, _, _, _, _, _, _, _] rfl [(23, _, some 10), (19, _, some 6)] rfl rfl ⟨⟨rfl, rfl, rfl⟩, ⟨rfl, rfl, rfl⟩, trivial⟩ (fun ext => TL.off hF rfl rfl rfl (by rw [hit] <;> rfl) rfl TL.fin) ?_
    refine DR.stepV [_, _, _, _, _, _, _, _, _, _, _, _, _] rfl [(0, _, none), (19, _, some 6)] rfl rfl ⟨⟨rfl, by kernel_rfl⟩, ⟨rfl, rfl, rfl⟩, trivial⟩ (fun ext => TL.off hF rfl rfl rfl (by rw [hit] <;> rfl) rfl TL.fin) ?_
    refine DR.stepV [_, _, _, _, _, _, _, _, _, _, _, _, _, _] rfl [(25, _, some 12), (19, _, some 6)] rfl rfl ⟨⟨rfl, rfl, rfl⟩, ⟨rfl, rfl, rfl⟩, trivial⟩ (fun ext => TL.off hF rfl rfl rfl (by rw [hit] <;> rfl) rfl TL.fin) ?_
    refine DR.stepV [_, _, _, _, _, _, _, _, _, _, _, _, _, _, _] rfl [(26, _, some 13), (19, _, some 6)] rfl rfl ⟨⟨rfl, rfl, rfl⟩, ⟨rfl, rfl, rfl⟩, trivial⟩ (fun ext => TL.off hF rfl rfl rfl (by rw [hit] <;> rfl) rfl TL.fin) ?_
    refine DR.stepV [_, _, _, _, _, _, _, _, _, _, _, _, _, _, _, _] rfl [(27, _, some 14), (19, _, some 6)] rfl rfl ⟨⟨rfl, rfl, rfl⟩, ⟨rfl, rfl, rfl⟩, trivial⟩ (fun ext => TL.off hF rfl rfl rfl (by rw [hit] <;> rfl) rfl TL.fin) ?_
    refine DR.done [(28, _), (27, _), (26, _), (25, _), (24, _), (23, _), (22, _), (21, _), (20, _), (19, _), (18, _), (17, _), (16, _), (15, _), (14, _), (13, _)] [_, _] mixed (by kernel_rfl) (by kernel_rfl) (by kernel_rfl) rfl rfl ?_
    refine TL.off hF rfl rfl rfl (by rw [hit] <;> rfl) rfl ?_
    refine TL.pickT hF rfl (by rw [hit] <;> rfl) rfl rfl ?_
    refine TL.nil ?_
    refine TQ.then_n ?_
    refine T.cond_t rfl rfl ?_
    refine T.seq ?_
    refine T.region ?_
    refine TL.assign hF rfl rfl ?_
    refine TL.nil ?_
    refine TQ.then_n ?_
    refine T.ret ?_
    refine TQ.block_r ?_
    refine TQ.then_r ?_
    refine TQ.then_r ?_
    refine TQ.block_r ?_
    refine TQ.then_r ?_
    refine TQ.rets [2] _ rfl rfl rfl ?_
    exact ⟨by unfold timesE; rw [tx_len, if_neg (by omega), if_neg (by rw [hs, hit]; simp)]; rfl, rfl⟩
   ·refine T.draw ?_
    refine DR.stepV [_] rfl [(0, _, none)] rfl rfl ⟨⟨rfl, by kernel_rfl⟩, trivial⟩ (fun ext => TL.move hF rfl rfl TL.fin) ?_
    refine DR.stepV [_, _] rfl [(3, _, none)] rfl rfl ⟨⟨rfl, by kernel_rfl⟩, trivial⟩ (fun ext => TL.move hF rfl rfl TL.fin) ?_
    refine DR.stepV [_, _, _] rfl [(13, _, some 0), (14, _, some 1)] rfl rfl ⟨⟨rfl, rfl, rfl⟩, ⟨rfl, rfl, rfl⟩, trivial⟩ (fun ext => TL.indexAddr hF rfl rfl (hx.ad (i := k) (by omega)) (by omega) (by omega) rfl TL.fin) ?_
    refine DR.stepV [_, _, _, _] rfl [(15, _, some 2)] rfl rfl ⟨⟨rfl, rfl, rfl⟩, trivial⟩ (fun ext => TL.load hF rfl (hx.at (i := k) (by omega)) rfl TL.fin) ?_
    refine DR.stepV [_, _, _, _, _] rfl [(16, _, some 3)] rfl rfl ⟨⟨rfl, rfl, rfl⟩, trivial⟩ (fun ext => TL.callV hF (IsTime_fn (hx.it (i := k) (by omega)) (hlx _ (List.getElem_mem _))) rfl rfl TL.fin) ?_
    refine DR.stepV [_, _, _, _, _, _] rfl [(17, _, some 4)] rfl rfl ⟨⟨rfl, rfl, rfl⟩, trivial⟩ (fun ext => TL.not hF rfl rfl TL.fin) ?_
    refine DR.stepV [_, _, _, _, _, _, _] rfl [(18, _, some 5)] rfl rfl ⟨⟨rfl, rfl, rfl⟩, trivial⟩ (fun ext => TL.move hF rfl rfl TL.fin) ?_
    refine DR.stepV [_, _, _, _, _, _, _, _] rfl [(0, _, none), (19, _, some 6)] rfl rfl ⟨⟨rfl, by kernel_rfl⟩, ⟨rfl, rfl, rfl⟩, trivial⟩ (fun ext => TL.on rfl rfl rfl (by rw [hit] <;> rfl) <| TL.move hF rfl rfl TL.fin) ?_
    refine DR.stepV [_, _, _, _, _, _, _, _, _] rfl [(3, _, none), (19, _, some 6)] rfl rfl ⟨⟨rfl, by kernel_rfl⟩, ⟨rfl, rfl, rfl⟩, trivial⟩ (fun ext => TL.on rfl rfl rfl (by rw [hit] <;> rfl) <| TL.move hF rfl rfl TL.fin) ?_
    refine DR.stepV [_, _, _, _, _, _, _, _, _, _] rfl [(20, _, some 7), (21, _, some 8), (19, _, some 6)] rfl rfl ⟨⟨rfl, rfl, rfl⟩, ⟨rfl, rfl, rfl⟩, ⟨rfl, rfl, rfl⟩, trivial⟩ (fun ext => TL.on rfl rfl rfl (by rw [hit] <;> rfl) <| TL.indexAddr hF rfl rfl (hx.ad (i := k) (by omega)) (by omega) (by omega) rfl TL.fin) ?_
    refine DR.stepV [_, _, _, _, _, _, _, _, _, _, _] rfl [(22, _, some 9), (19, _, some 6)] rfl rfl ⟨⟨rfl, rfl, rfl⟩, ⟨rfl, rfl, rfl⟩, trivial⟩ (fun ext => TL.on rfl rfl rfl (by rw [hit] <;> rfl) <| TL.load hF rfl (hx.at (i := k) (by omega)) rfl TL.fin) ?_
    refine DR.stepV [_, _, _, _, _, _, _, _, _, _, _, _] rfl [(23, _, some 10), (19, _, some 6)] rfl rfl ⟨⟨rfl, rfl, rfl⟩, ⟨rfl, rfl, rfl⟩, trivial⟩ (fun ext => TL.on rfl rfl rfl (by rw [hit] <;> rfl) <| TL.len hF rfl rfl TL.fin) ?_
    refine DR.stepV [_, _, _, _, _, _, _, _, _, _, _, _, _] rfl [(0, _, none), (19, _, some 6)] rfl rfl ⟨⟨rfl, by kernel_rfl⟩, ⟨rfl, rfl, rfl⟩, trivial⟩ (fun ext => TL.on rfl rfl rfl (by rw [hit] <;> rfl) <| TL.move hF rfl rfl TL.fin) ?_
    refine DR.stepV [_, _, _, _, _, _, _, _, _, _, _, _, _, _] rfl [(25, _, some 12), (19, _, some 6)] rfl rfl ⟨⟨rfl, rfl, rfl⟩, ⟨rfl, rfl, rfl⟩, trivial⟩ (fun ext => TL.on rfl rfl rfl (by rw [hit] <;> rfl) <| TL.indexAddr hF rfl rfl (hx.ad (i := 0) (by omega)) (by omega) (by omega) rfl TL.fin) ?_
    refine DR.stepV [_, _, _, _, _, _, _, _, _, _, _, _, _, _, _] rfl [(26, _, some 13), (19, _, some 6)] rfl rfl ⟨⟨rfl, rfl, rfl⟩, ⟨rfl, rfl, rfl⟩, trivial⟩ (fun ext => TL.on rfl rfl rfl (by rw [hit] <;> rfl) <| TL.load hF rfl (hx.at (i := 0) (by omega)) rfl TL.fin) ?_
    refine DR.stepV [_, _, _, _, _, _, _, _, _, _, _, _, _, _, _, _] rfl [(27, _, some 14), (19, _, some 6)] rfl rfl ⟨⟨rfl, rfl, rfl⟩, ⟨rfl, rfl, rfl⟩, trivial⟩ (fun ext => TL.on rfl rfl rfl (by rw [hit] <;> rfl) <| TL.len hF rfl rfl TL.fin) ?_
    refine DR.done [(28, _), (27, _), (26, _), (25, _), (24, _), (23, _), (22, _), (21, _), (20, _), (19, _), (18, _), (17, _), (16, _), (15, _), (14, _), (13, _)] [_, _] mixed (by kernel_rfl) (by kernel_rfl) (by kernel_rfl) rfl rfl ?_
    refine TL.on rfl rfl rfl (by rw [hit] <;> rfl) ?_
    refine TL.bin hF rfl rfl rfl rfl ?_
    refine TL.pickF hF rfl (by rw [hit] <;> rfl) rfl rfl ?_
    refine TL.nil ?_
    refine TQ.then_n ?_
    first | refine T.cond_d rfl (fun ht30 => ?_) (fun ht30 => ?_) | refine T.cond _ rfl (fun ht30 => ?_) (fun ht30 => ?_)
    ·refine T.seq ?_
     refine T.region ?_
     refine TL.assign hF rfl rfl ?_
     refine TL.nil ?_
     refine TQ.then_n ?_
     refine T.ret ?_
     refine TQ.block_r ?_
     refine TQ.then_r ?_
     refine TQ.then_r ?_
     refine TQ.block_r ?_
     refine TQ.then_r ?_
     refine TQ.rets [2] _ rfl rfl rfl ?_
     exact ⟨by unfold timesE; rw [tx_len, if_neg (by omega), if_neg (by rw [hs, hit, decide_eq_false (by omega)]; simp)]; rfl, rfl⟩
    ·refine T.skip ?_
     refine TQ.block_n ?_
     refine TQ.then_n ?_
     refine T.region ?_
     refine TL.move hF rfl rfl ?_
     refine TL.add hF rfl rfl (by omega) (by omega) rfl ?_
     refine TL.assign hF rfl rfl ?_
     refine TL.nil ?_
     refine TQ.round (k + 1) ⟨by omega, by rw [hs, hit, decide_eq_true (by omega), Bool.true_and, Bool.true_and, tx_head (by omega)]⟩ (by omega) ⟨rfl, rfl, trivial⟩ rfl
  ·refine T.exit ?_
   refine TQ.then_x ?_
   refine TQ.then_x ?_
   refine TQ.block_x ?_
   refine TQ.then_n ?_
   refine T.seq ?_
   refine T.region ?_
   refine TL.assign hF rfl rfl ?_
   refine TL.nil ?_
   refine TQ.then_n ?_
   refine T.ret ?_
   refine TQ.rets [2] _ rfl rfl rfl ?_
   exact ⟨by unfold timesE; rw [tx_len, if_neg (by omega), if_pos (by rw [hs, List.drop_of_length_le (by rw [tx_len]; omega)]; rfl)]; rfl, rfl⟩
set_option maxHeartbeats 2000000 in
theorem AtOrBefore_fn {a b : Option Addr} {xs ys : List Int} {c d : Nat} (hx : Row S w0 η a (ints xs)) (hy : Row S w0 η b (ints ys)) (hl : xs.length = ys.length) (hb : xs.length < 2 ^ 63) :
  Rt Tryz.prog 49 [.slice a xs.length c, .slice b ys.length d].toArray S w0 η (fun v η' => v = .bool (tle xs ys) ∧ η' = η) := by
 have hF := open_wide
 refine Rt.of (fn := Tryz.f49) Tryz.func49 rfl rfl ?_
 refine T.seq ?_
 refine T.region ?_
 refine TL.assign hF rfl rfl ?_
 refine TL.nil ?_
 refine TQ.then_n ?_
 refine T.seq ?_
 refine T.seq ?_
 refine T.region ?_
 refine TL.assign hF rfl rfl ?_
 refine TL.nil ?_
 refine TQ.then_n ?_
 refine T.block ?_
 refine T.loop (ι := Nat) (fun k => k ≤ xs.length ∧ tle xs ys = tle (xs.drop k) (ys.drop k)) (fun k => [(0, .slice a xs.length c), (1, .slice b ys.length d), (5, .int .i64 (k : Int))]) (fun _ => η) (fun k => xs.length - k) 0 ⟨Nat.zero_le _, by simp⟩ ⟨rfl, rfl, rfl, trivial⟩ rfl ?_
 rintro k ⟨hk, hs⟩
 refine T.seq ?_
 refine T.seq ?_
 refine T.region ?_
 refine TL.move hF rfl rfl ?_
 refine TL.move hF rfl rfl ?_
 refine TL.len hF rfl rfl ?_
 refine TL.bin hF rfl rfl rfl rfl ?_
 refine TL.nil ?_
 refine TQ.then_n ?_
 first | refine T.cond_d rfl (fun ht9 => ?_) (fun ht9 => ?_) | refine T.cond _ rfl (fun ht9 => ?_) (fun ht9 => ?_)
 ·refine T.skip ?_
  refine TQ.then_n ?_
  refine T.seq ?_
  refine T.block ?_
  refine T.seq ?_
  refine T.draw ?_
  refine DR.stepV [_] rfl [(0, _, none)] rfl rfl ⟨⟨rfl, by kernel_rfl⟩, trivial⟩ (fun ext => TL.move hF rfl rfl TL.fin) ?_
  refine DR.stepV [_, _] rfl [(5, _, none)] rfl rfl ⟨⟨rfl, by kernel_rfl⟩, trivial⟩ (fun ext => TL.move hF rfl rfl TL.fin) ?_
  refine DR.stepV [_, _, _] rfl [(12, _, some 0), (13, _, some 1)] rfl rfl ⟨⟨rfl, rfl, rfl⟩, ⟨rfl, rfl, rfl⟩, trivial⟩ (fun ext => TL.indexAddr hF rfl rfl (hx.adi (i := k) (by simp; omega)) (by omega) (by omega) rfl TL.fin) ?_
  refine DR.stepV [_, _, _, _] rfl [(14, _, some 2)] rfl rfl ⟨⟨rfl, rfl, rfl⟩, trivial⟩ (fun ext => TL.load hF rfl (hx.int (i := k) (by omega)) rfl TL.fin) ?_
  refine DR.stepV [_, _, _, _, _] rfl [(1, _, none)] rfl rfl ⟨⟨rfl, by kernel_rfl⟩, trivial⟩ (fun ext => TL.move hF rfl rfl TL.fin) ?_
  refine DR.stepV [_, _, _, _, _, _] rfl [(5, _, none)] rfl rfl ⟨⟨rfl, by kernel_rfl⟩, trivial⟩ (fun ext => TL.move hF rfl rfl TL.fin) ?_
  refine DR.stepV [_, _, _, _, _, _, _] rfl [(16, _, some 4), (17, _, some 5)] rfl rfl ⟨⟨rfl, rfl, rfl⟩, ⟨rfl, rfl, rfl⟩, trivial⟩ (fun ext => TL.indexAddr hF rfl rfl (hy.adi (i := k) (by simp; omega)) (by omega) (by omega) rfl TL.fin) ?_
  refine DR.stepV [_, _, _, _, _, _, _, _] rfl [(18, _, some 6)] rfl rfl ⟨⟨rfl, rfl, rfl⟩, trivial⟩ (fun ext => TL.load hF rfl (hy.int (i := k) (by omega)) rfl TL.fin) ?_
  refine DR.done [(19, _), (18, _), (17, _), (16, _), (15, _), (14, _), (13, _), (12, _)] [_] mixed (by kernel_rfl) (by kernel_rfl) (by kernel_rfl) rfl rfl ?_
  refine TL.bin hF rfl rfl rfl rfl ?_
  refine TL.nil ?_
  refine TQ.then_n ?_
  first | refine T.cond_d rfl (fun ht20 => ?_) (fun ht20 => ?_) | refine T.cond _ rfl (fun ht20 => ?_) (fun ht20 => ?_)
  ·refine T.seq ?_
   refine T.region ?_
   refine TL.assign hF rfl rfl ?_
   refine TL.nil ?_
   refine TQ.then_n ?_
   refine T.ret ?_
   refine TQ.block_r ?_
   refine TQ.then_r ?_
   refine TQ.then_r ?_
   refine TQ.block_r ?_
   refine TQ.then_r ?_
   refine TQ.rets [4] _ rfl rfl rfl ?_
   exact ⟨by rw [hs, drop_step (l := xs) (by omega), drop_step (l := ys) (by omega), tle, decide_eq_false (by omega)]; rfl, rfl⟩
  ·refine T.skip ?_
   refine TQ.block_n ?_
   refine TQ.then_n ?_
   refine T.region ?_
   refine TL.move hF rfl rfl ?_
   refine TL.add hF rfl rfl (by omega) (by omega) rfl ?_
   refine TL.assign hF rfl rfl ?_
   refine TL.nil ?_
   refine TQ.round (k + 1) ⟨by omega, by rw [hs, drop_step (l := xs) (by omega), drop_step (l := ys) (by omega), tle, decide_eq_true (by omega), Bool.true_and]⟩ (by omega) ⟨rfl, rfl, rfl, trivial⟩ rfl
 ·refine T.exit ?_
  refine TQ.then_x ?_
  refine TQ.then_x ?_
  refine TQ.block_x ?_
  refine TQ.then_n ?_
  refine T.seq ?_
  refine T.region ?_
  refine TL.assign hF rfl rfl ?_
  refine TL.nil ?_
  refine TQ.then_n ?_
  refine T.ret ?_
  refine TQ.rets [4] _ rfl rfl rfl ?_
  exact ⟨by rw [hs, List.drop_of_length_le (by omega), List.drop_of_length_le (by omega)]; rfl, rfl⟩
set_option maxHeartbeats 2000000 in
theorem First_fn {a b : Option Addr} {xs ys : List Int} {c d : Nat} (hx : Row S w0 η a (ints xs)) (hy : Row S w0 η b (ints ys)) (hl : xs.length = ys.length) (hb : xs.length < 2 ^ 63) :
  Rt Tryz.prog 104 [.slice a xs.length c, .slice b ys.length d].toArray S w0 η (fun v η' => v = .bool (lxl xs ys) ∧ η' = η) := by
 have hF := open_wide
 refine Rt.of (fn := Tryz.f104) Tryz.func104 rfl rfl ?_
 refine T.seq ?_
 refine T.region ?_
 refine TL.assign hF rfl rfl ?_
 refine TL.nil ?_
 refine TQ.then_n ?_
 refine T.seq ?_
 refine T.seq ?_
 refine T.region ?_
 refine TL.assign hF rfl rfl ?_
 refine TL.nil ?_
 refine TQ.then_n ?_
 refine T.block ?_
 refine T.loop (ι := Nat) (fun k => k ≤ xs.length ∧ lxl xs ys = lxl (xs.drop k) (ys.drop k)) (fun k => [(0, .slice a xs.length c), (1, .slice b ys.length d), (5, .int .i64 (k : Int))]) (fun _ => η) (fun k => xs.length - k) 0 ⟨Nat.zero_le _, by simp⟩ ⟨rfl, rfl, rfl, trivial⟩ rfl ?_
 rintro k ⟨hk, hs⟩
 refine T.seq ?_
 refine T.seq ?_
 refine T.region ?_
 refine TL.move hF rfl rfl ?_
 refine TL.move hF rfl rfl ?_
 refine TL.len hF rfl rfl ?_
 refine TL.bin hF rfl rfl rfl rfl ?_
 refine TL.nil ?_
 refine TQ.then_n ?_
 first | refine T.cond_d rfl (fun ht9 => ?_) (fun ht9 => ?_) | refine T.cond _ rfl (fun ht9 => ?_) (fun ht9 => ?_)
 ·refine T.skip ?_
  refine TQ.then_n ?_
  refine T.seq ?_
  refine T.block ?_
  refine T.seq ?_
  refine T.draw ?_
  refine DR.stepV [_] rfl [(0, _, none)] rfl rfl ⟨⟨rfl, by kernel_rfl⟩, trivial⟩ (fun ext => TL.move hF rfl rfl TL.fin) ?_
  refine DR.stepV [_, _] rfl [(5, _, none)] rfl rfl ⟨⟨rfl, by kernel_rfl⟩, trivial⟩ (fun ext => TL.move hF rfl rfl TL.fin) ?_
  refine DR.stepV [_, _, _] rfl [(12, _, some 0), (13, _, some 1)] rfl rfl ⟨⟨rfl, rfl, rfl⟩, ⟨rfl, rfl, rfl⟩, trivial⟩ (fun ext => TL.indexAddr hF rfl rfl (hx.adi (i := k) (by simp; omega)) (by omega) (by omega) rfl TL.fin) ?_
  refine DR.stepV [_, _, _, _] rfl [(14, _, some 2)] rfl rfl ⟨⟨rfl, rfl, rfl⟩, trivial⟩ (fun ext => TL.load hF rfl (hx.int (i := k) (by omega)) rfl TL.fin) ?_
  refine DR.stepV [_, _, _, _, _] rfl [(1, _, none)] rfl rfl ⟨⟨rfl, by kernel_rfl⟩, trivial⟩ (fun ext => TL.move hF rfl rfl TL.fin) ?_
  refine DR.stepV [_, _, _, _, _, _] rfl [(5, _, none)] rfl rfl ⟨⟨rfl, by kernel_rfl⟩, trivial⟩ (fun ext => TL.move hF rfl rfl TL.fin) ?_
  refine DR.stepV [_, _, _, _, _, _, _] rfl [(16, _, some 4), (17, _, some 5)] rfl rfl ⟨⟨rfl, rfl, rfl⟩, ⟨rfl, rfl, rfl⟩, trivial⟩ (fun ext => TL.indexAddr hF rfl rfl (hy.adi (i := k) (by simp; omega)) (by omega) (by omega) rfl TL.fin) ?_
  refine DR.stepV [_, _, _, _, _, _, _, _] rfl [(18, _, some 6)] rfl rfl ⟨⟨rfl, rfl, rfl⟩, trivial⟩ (fun ext => TL.load hF rfl (hy.int (i := k) (by omega)) rfl TL.fin) ?_
  refine DR.done [(19, _), (18, _), (17, _), (16, _), (15, _), (14, _), (13, _), (12, _)] [_] mixed (by kernel_rfl) (by kernel_rfl) (by kernel_rfl) rfl rfl ?_
  refine TL.bin hF rfl rfl rfl rfl ?_
  refine TL.nil ?_
  refine TQ.then_n ?_
  first | refine T.cond_d rfl (fun ht20 => ?_) (fun ht20 => ?_) | refine T.cond _ rfl (fun ht20 => ?_) (fun ht20 => ?_)
  ·refine T.seq ?_
   refine T.draw ?_
   refine DR.stepV [_] rfl [(0, _, none)] rfl rfl ⟨⟨rfl, by kernel_rfl⟩, trivial⟩ (fun ext => TL.move hF rfl rfl TL.fin) ?_
   refine DR.stepV [_, _] rfl [(5, _, none)] rfl rfl ⟨⟨rfl, by kernel_rfl⟩, trivial⟩ (fun ext => TL.move hF rfl rfl TL.fin) ?_
   refine DR.stepV [_, _, _] rfl [(21, _, some 0), (22, _, some 1)] rfl rfl ⟨⟨rfl, rfl, rfl⟩, ⟨rfl, rfl, rfl⟩, trivial⟩ (fun ext => TL.indexAddr hF rfl rfl (hx.adi (i := k) (by simp; omega)) (by omega) (by omega) rfl TL.fin) ?_
   refine DR.stepV [_, _, _, _] rfl [(23, _, some 2)] rfl rfl ⟨⟨rfl, rfl, rfl⟩, trivial⟩ (fun ext => TL.load hF rfl (hx.int (i := k) (by omega)) rfl TL.fin) ?_
   refine DR.stepV [_, _, _, _, _] rfl [(1, _, none)] rfl rfl ⟨⟨rfl, by kernel_rfl⟩, trivial⟩ (fun ext => TL.move hF rfl rfl TL.fin) ?_
   refine DR.stepV [_, _, _, _, _, _] rfl [(5, _, none)] rfl rfl ⟨⟨rfl, by kernel_rfl⟩, trivial⟩ (fun ext => TL.move hF rfl rfl TL.fin) ?_
   refine DR.stepV [_, _, _, _, _, _, _] rfl [(25, _, some 4), (26, _, some 5)] rfl rfl ⟨⟨rfl, rfl, rfl⟩, ⟨rfl, rfl, rfl⟩, trivial⟩ (fun ext => TL.indexAddr hF rfl rfl (hy.adi (i := k) (by simp; omega)) (by omega) (by omega) rfl TL.fin) ?_
   refine DR.stepV [_, _, _, _, _, _, _, _] rfl [(27, _, some 6)] rfl rfl ⟨⟨rfl, rfl, rfl⟩, trivial⟩ (fun ext => TL.load hF rfl (hy.int (i := k) (by omega)) rfl TL.fin) ?_
   refine DR.done [(28, _), (27, _), (26, _), (25, _), (24, _), (23, _), (22, _), (21, _)] [_, _] mixed (by kernel_rfl) (by kernel_rfl) (by kernel_rfl) rfl rfl ?_
   refine TL.bin hF rfl rfl rfl rfl ?_
   refine TL.assign hF rfl rfl ?_
   refine TL.nil ?_
   refine TQ.then_n ?_
   refine T.ret ?_
   refine TQ.block_r ?_
   refine TQ.then_r ?_
   refine TQ.then_r ?_
   refine TQ.block_r ?_
   refine TQ.then_r ?_
   refine TQ.rets [4] _ rfl rfl rfl ?_
   exact ⟨by rw [hs, drop_step (l := xs) (by omega), drop_step (l := ys) (by omega), lxl, if_neg ht20]; rfl, rfl⟩
  ·refine T.skip ?_
   refine TQ.block_n ?_
   refine TQ.then_n ?_
   refine T.region ?_
   refine TL.move hF rfl rfl ?_
   refine TL.add hF rfl rfl (by omega) (by omega) rfl ?_
   refine TL.assign hF rfl rfl ?_
   refine TL.nil ?_
   refine TQ.round (k + 1) ⟨by omega, by rw [hs, drop_step (l := xs) (by omega), drop_step (l := ys) (by omega), lxl, if_pos (Classical.not_not.1 ht20)]⟩ (by omega) ⟨rfl, rfl, rfl, trivial⟩ rfl
 ·refine T.exit ?_
  refine TQ.then_x ?_
  refine TQ.then_x ?_
  refine TQ.block_x ?_
  refine TQ.then_n ?_
  refine T.seq ?_
  refine T.region ?_
  refine TL.assign hF rfl rfl ?_
  refine TL.nil ?_
  refine TQ.then_n ?_
  refine T.ret ?_
  refine TQ.rets [4] _ rfl rfl rfl ?_
  exact ⟨by rw [hs, List.drop_of_length_le (by omega), List.drop_of_length_le (by omega)]; rfl, rfl⟩
set_option maxHeartbeats 2000000 in
theorem Copy_fn {a : Option Addr} {xs : List Int} {c : Nat} (hx : Row S w0 η a (ints xs)) (hl : xs.length < 1099511627776) :
  Rt Tryz.prog 105 [.slice a xs.length c].toArray S w0 η (fun v η' => ∃ a' cap seg, v = .slice a' xs.length cap ∧ OSl 3 1 (.slice a' xs.length cap) xs.length (ints xs) seg ∧ η' = seg :: η) := by
 have hF := open_wide
 refine Rt.of (fn := Tryz.f105) Tryz.func105 rfl rfl ?_
 refine T.seq ?_
 refine T.region ?_
 refine TL.assign hF rfl rfl ?_
 refine TL.nil ?_
 refine TQ.then_n ?_
 refine T.seq ?_
 refine T.region ?_
 refine TL.buildSlice hF rfl (cs := #[]) (e := 3) (fun w => by kernel_rfl) rfl (fun b3 => ?_)
 refine TL.move hF rfl rfl ?_
 refine TL.append hF 0 rfl rfl rfl osl_empty (hx.up upc).src rfl (by simp [Value.cells]) (ints1 _) (by omega) (by omega) rfl (fun a' cap' seg' ho' => ?_)
 rw [Nat.zero_add, List.nil_append] at ho'
 rw [Nat.zero_add]
 refine TL.assign hF rfl rfl ?_
 refine TL.nil ?_
 refine TQ.then_n ?_
 refine T.ret ?_
 refine TQ.rets [2] _ rfl rfl rfl ?_
 exact ⟨a', cap', seg', rfl, ho', rfl⟩
set_option maxHeartbeats 2000000 in
theorem Past_fn {a b : Option Addr} {ps : List HL} {t : List Int} {c d : Nat} (hx : LL S w0 η a ps) (ht : Row S w0 η b (ints t)) (hl : ps.length < 2 ^ 63) (hw : ∀ p ∈ ps, p.2.1.length = t.length) (htl : t.length < 2 ^ 63) :
  Rt Tryz.prog 101 [.slice a ps.length c, .slice b t.length d].toArray S w0 η (fun v η' => v = .bool (pastT (tx ps) t) ∧ η' = η) := by
 have hF := open_wide
 refine Rt.of (fn := Tryz.f101) Tryz.func101 rfl rfl ?_
 refine T.seq ?_
 refine T.region ?_
 refine TL.assign hF rfl rfl ?_
 refine TL.nil ?_
 refine TQ.then_n ?_
 refine T.seq ?_
 refine T.seq ?_
 refine T.region ?_
 refine TL.assign hF rfl rfl ?_
 refine TL.nil ?_
 refine TQ.then_n ?_
 refine T.block ?_
 refine T.loop (ι := Nat) (fun k => k ≤ ps.length ∧ pastT (tx ps) t = pastT ((tx ps).drop k) t) (fun k => [(0, .slice a ps.length c), (1, .slice b t.length d), (5, .int .i64 (k : Int))]) (fun _ => η) (fun k => ps.length - k) 0 ⟨Nat.zero_le _, by simp⟩ ⟨rfl, rfl, rfl, trivial⟩ rfl ?_
 rintro k ⟨hk, hs⟩
 refine T.seq ?_
 refine T.seq ?_
 refine T.region ?_
 refine TL.move hF rfl rfl ?_
 refine TL.move hF rfl rfl ?_
 refine TL.len hF rfl rfl ?_
 refine TL.bin hF rfl rfl rfl rfl ?_
 refine TL.nil ?_
 refine TQ.then_n ?_
 first | refine T.cond_d rfl (fun ht9 => ?_) (fun ht9 => ?_) | refine T.cond _ rfl (fun ht9 => ?_) (fun ht9 => ?_)
 ·refine T.skip ?_
  refine TQ.then_n ?_
  refine T.seq ?_
  refine T.block ?_
  refine T.seq ?_
  refine T.region ?_
  refine TL.move hF rfl rfl ?_
  refine TL.move hF rfl rfl ?_
  refine TL.indexAddr hF rfl rfl (hx.ad (i := k) (by omega)) (by omega) (by omega) rfl ?_
  refine TL.load hF rfl (hx.at (i := k) (by omega)) rfl ?_
  refine TL.move hF rfl rfl ?_
  refine TL.callV hF (AtOrBefore_fn (hx.it (i := k) (by omega)) ht (hw _ (List.getElem_mem _)) (by rw [hw _ (List.getElem_mem _)]; exact htl)) rfl rfl ?_
  refine TL.nil ?_
  refine TQ.then_n ?_
  refine T.cond _ rfl (fun ht17 => ?_) (fun ht17 => ?_)
  ·refine T.seq ?_
   refine T.region ?_
   refine TL.assign hF rfl rfl ?_
   refine TL.nil ?_
   refine TQ.then_n ?_
   refine T.ret ?_
   refine TQ.block_r ?_
   refine TQ.then_r ?_
   refine TQ.then_r ?_
   refine TQ.block_r ?_
   refine TQ.then_r ?_
   refine TQ.rets [4] _ rfl rfl rfl ?_
   exact ⟨by rw [hs, tx_drop (by omega), pastT, List.any_cons, ht17, Bool.true_or]; rfl, rfl⟩
  ·refine T.skip ?_
   refine TQ.block_n ?_
   refine TQ.then_n ?_
   refine T.region ?_
   refine TL.move hF rfl rfl ?_
   refine TL.add hF rfl rfl (by omega) (by omega) rfl ?_
   refine TL.assign hF rfl rfl ?_
   refine TL.nil ?_
   refine TQ.round (k + 1) ⟨by omega, by rw [hs, tx_drop (by omega), pastT, List.any_cons, ht17, Bool.false_or]; rfl⟩ (by omega) ⟨rfl, rfl, rfl, trivial⟩ rfl
 ·refine T.exit ?_
  refine TQ.then_x ?_
  refine TQ.then_x ?_
  refine TQ.block_x ?_
  refine TQ.then_n ?_
  refine T.seq ?_
  refine T.region ?_
  refine TL.assign hF rfl rfl ?_
  refine TL.nil ?_
  refine TQ.then_n ?_
  refine T.ret ?_
  refine TQ.rets [4] _ rfl rfl rfl ?_
  exact ⟨by rw [hs, List.drop_of_length_le (by rw [tx_len]; omega)]; rfl, rfl⟩
theorem meet_take {xs ys : List Int} {k : Nat} (h1 : k < xs.length) (h2 : k < ys.length) : (tmeet xs ys).take (k + 1) = (tmeet xs ys).take k ++ [min xs[k] ys[k]] := by
 rw [List.take_succ_eq_append_getElem (by simp [tmeet]; omega)]; simp [tmeet]
set_option maxHeartbeats 2000000 in
theorem Lower_fn {a b : Option Addr} {xs ys : List Int} {c d : Nat} (hx : Row S w0 η a (ints xs)) (hy : Row S w0 η b (ints ys)) (hl : xs.length = ys.length) (hb : xs.length < 1099511627776) :
  Rt Tryz.prog 96 [.slice a xs.length c, .slice b ys.length d].toArray S w0 η (fun v η' => ∃ a' cap seg, v = .slice a' xs.length cap ∧ OSl 3 1 (.slice a' xs.length cap) xs.length (ints (tmeet xs ys)) seg ∧ η' = seg :: η) := by
 have hF := open_wide
 refine Rt.of (fn := Tryz.f96) Tryz.func96 rfl rfl ?_
 refine T.seq ?_
 refine T.region ?_
 refine TL.assign hF rfl rfl ?_
 refine TL.nil ?_
 refine TQ.then_n ?_
 refine T.seq ?_
 refine T.region ?_
 refine TL.buildSlice hF rfl (cs := #[]) (e := 3) (fun w => by kernel_rfl) rfl (fun b7 => ?_)
 refine TL.assign hF rfl rfl ?_
 refine TL.nil ?_
 refine TQ.then_n ?_
 refine T.seq ?_
 refine T.seq ?_
 refine T.region ?_
 refine TL.assign hF rfl rfl ?_
 refine TL.nil ?_
 refine TQ.then_n ?_
 refine T.block ?_
 refine T.loop (ι := Nat × Option Addr × Nat × Seg) (fun i => i.1 ≤ xs.length ∧ OSl 3 1 (.slice i.2.1 i.1 i.2.2.1) i.1 (ints ((tmeet xs ys).take i.1)) i.2.2.2) (fun i => [(0, .slice a xs.length c), (1, .slice b ys.length d), (5, .slice i.2.1 i.1 i.2.2.1), (6, .int .i64 (i.1 : Int))]) (fun i => i.2.2.2 :: η) (fun i => xs.length - i.1) (0, some ⟨b7, 0, none⟩, 0, _) ⟨Nat.zero_le _, osl_empty⟩ ⟨rfl, rfl, rfl, rfl, trivial⟩ rfl ?_
 rintro ⟨k, oa, oc, og⟩ ⟨hk, ho⟩
 dsimp only at hk ho
 refine T.seq ?_
 refine T.seq ?_
 refine T.region ?_
 refine TL.move hF rfl rfl ?_
 refine TL.move hF rfl rfl ?_
 refine TL.len hF rfl rfl ?_
 refine TL.bin hF rfl rfl rfl rfl ?_
 refine TL.nil ?_
 refine TQ.then_n ?_
 first | refine T.cond_d rfl (fun ht11 => ?_) (fun ht11 => ?_) | refine T.cond _ rfl (fun ht11 => ?_) (fun ht11 => ?_)
 ·refine T.skip ?_
  refine TQ.then_n ?_
  refine T.seq ?_
  refine T.block ?_
  refine T.drawH 11 mixed ?_
  refine DH.pure (i := 0) [(5, _, none)] rfl rfl rfl rfl ⟨⟨rfl, by kernel_rfl⟩, trivial⟩ (fun _ ext => TL.move hF rfl rfl TL.fin) ?_
  refine DH.pure (i := 1) [(0, _, none)] rfl rfl rfl rfl ⟨⟨rfl, by kernel_rfl⟩, trivial⟩ (fun _ ext => TL.move hF rfl rfl TL.fin) ?_
  refine DH.pure (i := 2) [(6, _, none)] rfl rfl rfl rfl ⟨⟨rfl, by kernel_rfl⟩, trivial⟩ (fun _ ext => TL.move hF rfl rfl TL.fin) ?_
  refine DH.pure (i := 3) [(15, _, some 1), (16, _, some 2)] rfl rfl rfl rfl ⟨⟨rfl, rfl, rfl⟩, ⟨rfl, rfl, rfl⟩, trivial⟩ (fun _ ext => TL.indexAddr hF rfl rfl (hx.adi (i := k) (by simp; omega)) (by omega) (by omega) rfl TL.fin) ?_
  refine DH.read (i := 4) [(17, _, some 3)] rfl rfl rfl rfl ⟨⟨rfl, rfl, rfl⟩, trivial⟩ (fun ext => TL.load hF rfl ((hx.up upc).int (i := k) (by omega)) rfl TL.fin) ?_
  refine DH.pure (i := 5) [(1, _, none)] rfl rfl rfl rfl ⟨⟨rfl, by kernel_rfl⟩, trivial⟩ (fun _ ext => TL.move hF rfl rfl TL.fin) ?_
  refine DH.pure (i := 6) [(6, _, none)] rfl rfl rfl rfl ⟨⟨rfl, by kernel_rfl⟩, trivial⟩ (fun _ ext => TL.move hF rfl rfl TL.fin) ?_
  refine DH.pure (i := 7) [(19, _, some 5), (20, _, some 6)] rfl rfl rfl rfl ⟨⟨rfl, rfl, rfl⟩, ⟨rfl, rfl, rfl⟩, trivial⟩ (fun _ ext => TL.indexAddr hF rfl rfl (hy.adi (i := k) (by simp; omega)) (by omega) (by omega) rfl TL.fin) ?_
  refine DH.read (i := 8) [(21, _, some 7)] rfl rfl rfl rfl ⟨⟨rfl, rfl, rfl⟩, trivial⟩ (fun ext => TL.load hF rfl ((hy.up upc).int (i := k) (by omega)) rfl TL.fin) ?_
  refine DH.read (i := 9) [(18, _, some 4), (22, _, some 8)] rfl rfl rfl rfl ⟨⟨rfl, rfl, rfl⟩, ⟨rfl, rfl, rfl⟩, trivial⟩ (fun ext => TL.min2 hF rfl rfl rfl TL.fin) ?_
  refine DH.heavy 10 [(23, _, some 9)] (by kernel_rfl) (by kernel_rfl) (by kernel_rfl) (by kernel_rfl) rfl rfl rfl rfl ⟨⟨rfl, rfl, rfl⟩, trivial⟩ (by kernel_rfl) (fun ext => ?_)
  refine TL.buildSlice hF rfl (cs := #[.int .i64 (min (xs[k]'(by omega)) (ys[k]'(by omega)))]) (e := 3) (fun w => by kernel_rfl) rfl (fun b24 => ?_)
  refine TL.finD ?_
  refine DH.done [(24, _), (23, _), (22, _), (21, _), (20, _), (19, _), (18, _), (17, _), (16, _), (15, _), (14, _)] [_, _] (by kernel_rfl) (by kernel_rfl) (by kernel_rfl) (by kernel_rfl) rfl rfl ?_
  refine TL.append hF 1 rfl rfl rfl ho (row_own (cs := [.int .i64 (min (xs[k]'(by omega)) (ys[k]'(by omega)))]) (e := 3) (by simp)).src rfl rfl (by simp [Value.oneCell']) (by omega) (by omega) rfl (fun a' cap' seg' ho' => ?_)
  have e : ints ((tmeet xs ys).take k) ++ [Value.int .i64 (min (xs[k]'(by omega)) (ys[k]'(by omega)))] = ints ((tmeet xs ys).take (k + 1)) := by rw [meet_take (by omega) (by omega)]; simp [ints]
  rw [e] at ho'
  refine TL.assign hF rfl rfl ?_
  refine TL.nil ?_
  refine TQ.block_n ?_
  refine TQ.then_n ?_
  refine T.region ?_
  refine TL.move hF rfl rfl ?_
  refine TL.add hF rfl rfl (by omega) (by omega) rfl ?_
  refine TL.assign hF rfl rfl ?_
  refine TL.nil ?_
  refine TQ.pop ?_
  refine TQ.round (k + 1, a', cap', seg') ⟨by dsimp only; omega, ho'⟩ (by dsimp only; omega) ⟨rfl, rfl, rfl, rfl, trivial⟩ rfl
 ·refine T.exit ?_
  refine TQ.then_x ?_
  refine TQ.then_x ?_
  refine TQ.block_x ?_
  refine TQ.then_n ?_
  refine T.seq ?_
  refine T.region ?_
  refine TL.move hF rfl rfl ?_
  refine TL.assign hF rfl rfl ?_
  refine TL.nil ?_
  refine TQ.then_n ?_
  refine T.ret ?_
  refine TQ.rets [4] _ rfl rfl rfl ?_
  have hkn : k = xs.length := by omega
  subst hkn
  rw [List.take_of_length_le (by simp [tmeet]; omega)] at ho
  exact ⟨oa, oc, og, rfl, ho, rfl⟩
theorem join_take {xs ys : List Int} {k : Nat} (h1 : k < xs.length) (h2 : k < ys.length) : (tjoin xs ys).take (k + 1) = (tjoin xs ys).take k ++ [max xs[k] ys[k]] := by
 rw [List.take_succ_eq_append_getElem (by simp [tjoin]; omega)]; simp [tjoin]
set_option maxHeartbeats 2000000 in
theorem Upper_fn {a b : Option Addr} {xs ys : List Int} {c d : Nat} (hx : Row S w0 η a (ints xs)) (hy : Row S w0 η b (ints ys)) (hl : xs.length = ys.length) (hb : xs.length < 1099511627776) :
  Rt Tryz.prog 97 [.slice a xs.length c, .slice b ys.length d].toArray S w0 η (fun v η' => ∃ a' cap seg, v = .slice a' xs.length cap ∧ OSl 3 1 (.slice a' xs.length cap) xs.length (ints (tjoin xs ys)) seg ∧ η' = seg :: η) := by
 have hF := open_wide
 refine Rt.of (fn := Tryz.f97) Tryz.func97 rfl rfl ?_
 refine T.seq ?_
 refine T.region ?_
 refine TL.assign hF rfl rfl ?_
 refine TL.nil ?_
 refine TQ.then_n ?_
 refine T.seq ?_
 refine T.region ?_
 refine TL.buildSlice hF rfl (cs := #[]) (e := 3) (fun w => by kernel_rfl) rfl (fun b7 => ?_)
 refine TL.assign hF rfl rfl ?_
 refine TL.nil ?_
 refine TQ.then_n ?_
 refine T.seq ?_
 refine T.seq ?_
 refine T.region ?_
 refine TL.assign hF rfl rfl ?_
 refine TL.nil ?_
 refine TQ.then_n ?_
 refine T.block ?_
 refine T.loop (ι := Nat × Option Addr × Nat × Seg) (fun i => i.1 ≤ xs.length ∧ OSl 3 1 (.slice i.2.1 i.1 i.2.2.1) i.1 (ints ((tjoin xs ys).take i.1)) i.2.2.2) (fun i => [(0, .slice a xs.length c), (1, .slice b ys.length d), (5, .slice i.2.1 i.1 i.2.2.1), (6, .int .i64 (i.1 : Int))]) (fun i => i.2.2.2 :: η) (fun i => xs.length - i.1) (0, some ⟨b7, 0, none⟩, 0, _) ⟨Nat.zero_le _, osl_empty⟩ ⟨rfl, rfl, rfl, rfl, trivial⟩ rfl ?_
 rintro ⟨k, oa, oc, og⟩ ⟨hk, ho⟩
 dsimp only at hk ho
 refine T.seq ?_
 refine T.seq ?_
 refine T.region ?_
 refine TL.move hF rfl rfl ?_
 refine TL.move hF rfl rfl ?_
 refine TL.len hF rfl rfl ?_
 refine TL.bin hF rfl rfl rfl rfl ?_
 refine TL.nil ?_
 refine TQ.then_n ?_
 first | refine T.cond_d rfl (fun ht11 => ?_) (fun ht11 => ?_) | refine T.cond _ rfl (fun ht11 => ?_) (fun ht11 => ?_)
 ·refine T.skip ?_
  refine TQ.then_n ?_
  refine T.seq ?_
  refine T.block ?_
  refine T.drawH 11 mixed ?_
  refine DH.pure (i := 0) [(5, _, none)] rfl rfl rfl rfl ⟨⟨rfl, by kernel_rfl⟩, trivial⟩ (fun _ ext => TL.move hF rfl rfl TL.fin) ?_
  refine DH.pure (i := 1) [(0, _, none)] rfl rfl rfl rfl ⟨⟨rfl, by kernel_rfl⟩, trivial⟩ (fun _ ext => TL.move hF rfl rfl TL.fin) ?_
  refine DH.pure (i := 2) [(6, _, none)] rfl rfl rfl rfl ⟨⟨rfl, by kernel_rfl⟩, trivial⟩ (fun _ ext => TL.move hF rfl rfl TL.fin) ?_
  refine DH.pure (i := 3) [(15, _, some 1), (16, _, some 2)] rfl rfl rfl rfl ⟨⟨rfl, rfl, rfl⟩, ⟨rfl, rfl, rfl⟩, trivial⟩ (fun _ ext => TL.indexAddr hF rfl rfl (hx.adi (i := k) (by simp; omega)) (by omega) (by omega) rfl TL.fin) ?_
  refine DH.read (i := 4) [(17, _, some 3)] rfl rfl rfl rfl ⟨⟨rfl, rfl, rfl⟩, trivial⟩ (fun ext => TL.load hF rfl ((hx.up upc).int (i := k) (by omega)) rfl TL.fin) ?_
  refine DH.pure (i := 5) [(1, _, none)] rfl rfl rfl rfl ⟨⟨rfl, by kernel_rfl⟩, trivial⟩ (fun _ ext => TL.move hF rfl rfl TL.fin) ?_
  refine DH.pure (i := 6) [(6, _, none)] rfl rfl rfl rfl ⟨⟨rfl, by kernel_rfl⟩, trivial⟩ (fun _ ext => TL.move hF rfl rfl TL.fin) ?_
  refine DH.pure (i := 7) [(19, _, some 5), (20, _, some 6)] rfl rfl rfl rfl ⟨⟨rfl, rfl, rfl⟩, ⟨rfl, rfl, rfl⟩, trivial⟩ (fun _ ext => TL.indexAddr hF rfl rfl (hy.adi (i := k) (by simp; omega)) (by omega) (by omega) rfl TL.fin) ?_
  refine DH.read (i := 8) [(21, _, some 7)] rfl rfl rfl rfl ⟨⟨rfl, rfl, rfl⟩, trivial⟩ (fun ext => TL.load hF rfl ((hy.up upc).int (i := k) (by omega)) rfl TL.fin) ?_
  refine DH.read (i := 9) [(18, _, some 4), (22, _, some 8)] rfl rfl rfl rfl ⟨⟨rfl, rfl, rfl⟩, ⟨rfl, rfl, rfl⟩, trivial⟩ (fun ext => TL.max2 hF rfl rfl rfl TL.fin) ?_
  refine DH.heavy 10 [(23, _, some 9)] (by kernel_rfl) (by kernel_rfl) (by kernel_rfl) (by kernel_rfl) rfl rfl rfl rfl ⟨⟨rfl, rfl, rfl⟩, trivial⟩ (by kernel_rfl) (fun ext => ?_)
  refine TL.buildSlice hF rfl (cs := #[.int .i64 (max (xs[k]'(by omega)) (ys[k]'(by omega)))]) (e := 3) (fun w => by kernel_rfl) rfl (fun b24 => ?_)
  refine TL.finD ?_
  refine DH.done [(24, _), (23, _), (22, _), (21, _), (20, _), (19, _), (18, _), (17, _), (16, _), (15, _), (14, _)] [_, _] (by kernel_rfl) (by kernel_rfl) (by kernel_rfl) (by kernel_rfl) rfl rfl ?_
  refine TL.append hF 1 rfl rfl rfl ho (row_own (cs := [.int .i64 (max (xs[k]'(by omega)) (ys[k]'(by omega)))]) (e := 3) (by simp)).src rfl rfl (by simp [Value.oneCell']) (by omega) (by omega) rfl (fun a' cap' seg' ho' => ?_)
  have e : ints ((tjoin xs ys).take k) ++ [Value.int .i64 (max (xs[k]'(by omega)) (ys[k]'(by omega)))] = ints ((tjoin xs ys).take (k + 1)) := by rw [join_take (by omega) (by omega)]; simp [ints]
  rw [e] at ho'
  refine TL.assign hF rfl rfl ?_
  refine TL.nil ?_
  refine TQ.block_n ?_
  refine TQ.then_n ?_
  refine T.region ?_
  refine TL.move hF rfl rfl ?_
  refine TL.add hF rfl rfl (by omega) (by omega) rfl ?_
  refine TL.assign hF rfl rfl ?_
  refine TL.nil ?_
  refine TQ.pop ?_
  refine TQ.round (k + 1, a', cap', seg') ⟨by dsimp only; omega, ho'⟩ (by dsimp only; omega) ⟨rfl, rfl, rfl, rfl, trivial⟩ rfl
 ·refine T.exit ?_
  refine TQ.then_x ?_
  refine TQ.then_x ?_
  refine TQ.block_x ?_
  refine TQ.then_n ?_
  refine T.seq ?_
  refine T.region ?_
  refine TL.move hF rfl rfl ?_
  refine TL.assign hF rfl rfl ?_
  refine TL.nil ?_
  refine TQ.then_n ?_
  refine T.ret ?_
  refine TQ.rets [4] _ rfl rfl rfl ?_
  have hkn : k = xs.length := by omega
  subst hkn
  rw [List.take_of_length_le (by simp [tjoin]; omega)] at ho
  exact ⟨oa, oc, og, rfl, ho, rfl⟩
theorem seenK_succ' {f : List Tm} {t : Tm} {k : Nat} (h : k + 1 < f.length) : seenK f t (k + 1) = tmeet (seenK f t k) (tjoin f[k + 1] t) := by rw [seenK_succ h, tjoin_comm]
set_option maxHeartbeats 2000000 in
theorem Stands_fn {a b : Option Addr} {ps : List HL} {t : List Int} {c d : Nat} (hx : LL S w0 [] a ps) (ht : Row S w0 [] b (ints t)) (hl : ps.length < 2 ^ 63) (h0 : 0 < ps.length) (hw : ∀ p ∈ ps, p.2.1.length = t.length) (htl : t.length < 1099511627776) :
  Rt Tryz.prog 102 [.slice a ps.length c, .slice b t.length d].toArray S w0 η (fun v η' => ∃ a' cap segs, v = .slice a' (standsT (tx ps) t).length cap ∧ Row S w0 segs a' (ints (standsT (tx ps) t)) ∧ η' = segs ++ η) := by
 have hF := open_wide
 refine Rt.of (fn := Tryz.f102) Tryz.func102 rfl rfl ?_
 refine T.seq ?_
 refine T.region ?_
 refine TL.assign hF rfl rfl ?_
 refine TL.nil ?_
 refine TQ.then_n ?_
 refine T.seq ?_
 refine T.region ?_
 refine TL.move hF rfl rfl ?_
 refine TL.indexAddr hF rfl rfl (hx.ad (i := 0) h0) (by omega) (by omega) rfl ?_
 refine TL.load hF rfl (hx.ro.at (i := 0) h0) rfl ?_
 refine TL.move hF rfl rfl ?_
 refine TL.call hF (Upper_fn (hx.ro.it (i := 0) h0) ht.ro (hw _ (List.getElem_mem _)) (by rw [hw _ (List.getElem_mem _)]; exact htl)) rfl rfl ?_
 rintro _ _ ⟨oa, oc, og, rfl, ho, rfl⟩
 have hwt : Wid t.length (tx ps) := fun x hx => by obtain ⟨p, hp, rfl⟩ := List.mem_map.1 hx; exact hw p hp
 have e0 : tjoin (ps[0]).2.1 t = seenK (tx ps) t 0 := by
  cases ps with
  | nil => simp at h0
  | cons q r => simp [seenK, tx, standsT]
 rw [e0, hw _ (List.getElem_mem h0)] at ho
 rw [hw _ (List.getElem_mem h0)]
 refine TL.assign hF rfl rfl ?_
 refine TL.nil ?_
 refine TQ.then_n ?_
 refine T.seq ?_
 refine T.seq ?_
 refine T.region ?_
 refine TL.assign hF rfl rfl ?_
 refine TL.nil ?_
 refine TQ.then_n ?_
 refine T.block ?_
 refine T.loop (ι := Nat × Option Addr × Nat × Seg × Heap) (fun i => i.1 < ps.length ∧ OSl 3 1 (.slice i.2.1 t.length i.2.2.1) t.length (ints (seenK (tx ps) t i.1)) i.2.2.2.1) (fun i => [(0, .slice a ps.length c), (1, .slice b t.length d), (5, .slice i.2.1 t.length i.2.2.1), (6, .int .i64 ((i.1 + 1 : Nat) : Int))]) (fun i => i.2.2.2.1 :: (i.2.2.2.2 ++ η)) (fun i => ps.length - i.1) (0, oa, oc, og, []) ⟨h0, ho⟩ ⟨rfl, rfl, rfl, rfl, trivial⟩ rfl ?_
 clear ho
 rintro ⟨k, oa, oc, og, gar⟩ ⟨hk, ho⟩
 dsimp only at hk ho
 refine T.seq ?_
 refine T.seq ?_
 refine T.region ?_
 refine TL.move hF rfl rfl ?_
 refine TL.move hF rfl rfl ?_
 refine TL.len hF rfl rfl ?_
 refine TL.bin hF rfl rfl rfl rfl ?_
 refine TL.nil ?_
 refine TQ.then_n ?_
 first | refine T.cond_d rfl (fun ht15 => ?_) (fun ht15 => ?_) | refine T.cond _ rfl (fun ht15 => ?_) (fun ht15 => ?_)
 ·refine T.skip ?_
  refine TQ.then_n ?_
  refine T.seq ?_
  refine T.block ?_
  refine T.region ?_
  refine TL.move hF rfl rfl ?_
  refine TL.move hF rfl rfl ?_
  refine TL.move hF rfl rfl ?_
  refine TL.indexAddr hF rfl rfl (hx.ad (i := k + 1) (by omega)) (by omega) (by omega) rfl ?_
  refine TL.load hF rfl (hx.ro.at (i := k + 1) (by omega)) rfl ?_
  refine TL.move hF rfl rfl ?_
  refine TL.call hF (Upper_fn (hx.ro.it (i := k + 1) (by omega)) ht.ro (hw _ (List.getElem_mem _)) (by rw [hw _ (List.getElem_mem _)]; exact htl)) rfl rfl ?_
  rintro _ _ ⟨a2, c2, s2, rfl, ho2, rfl⟩
  rw [hw _ (List.getElem_mem _)] at ho2 ⊢
  have hsl := seenK_len hwt rfl k (t := t)
  have hjl : (tjoin (ps[k + 1]'(by omega)).2.1 t).length = t.length := by rw [tjoin_len (hw _ (List.getElem_mem _)), hw _ (List.getElem_mem _)]
  have hm := Lower_fn (S := S) (w0 := w0) (η := s2 :: og :: (gar ++ η)) (a := oa) (b := a2) (xs := seenK (tx ps) t k) (ys := tjoin (ps[k + 1]'(by omega)).2.1 t) (c := oc) (d := c2) (ho.row (List.mem_cons_of_mem _ List.mem_cons_self)) (ho2.row List.mem_cons_self) (by rw [hsl, hjl]) (by rw [hsl]; exact htl)
  rw [hsl, hjl] at hm
  refine TL.call hF hm rfl rfl ?_
  rintro _ _ ⟨a3, c3, s3, rfl, ho3, rfl⟩
  have e1 := seenK_succ' (f := tx ps) (t := t) (k := k) (by rw [tx_len]; omega)
  rw [tx_get (by omega)] at e1
  rw [← e1] at ho3
  refine TL.assign hF rfl rfl ?_
  refine TL.nil ?_
  refine TQ.block_n ?_
  refine TQ.then_n ?_
  refine T.region ?_
  refine TL.move hF rfl rfl ?_
  refine TL.add hF rfl rfl (by omega) (by omega) rfl ?_
  refine TL.assign hF rfl rfl ?_
  refine TL.nil ?_
  refine TQ.round (k + 1, a3, c3, s3, s2 :: og :: gar) ⟨by dsimp only; omega, ho3⟩ (by dsimp only; omega) ⟨rfl, rfl, rfl, rfl, trivial⟩ rfl
 ·refine T.exit ?_
  refine TQ.then_x ?_
  refine TQ.then_x ?_
  refine TQ.block_x ?_
  refine TQ.then_n ?_
  refine T.seq ?_
  refine T.region ?_
  refine TL.move hF rfl rfl ?_
  refine TL.assign hF rfl rfl ?_
  refine TL.nil ?_
  refine TQ.then_n ?_
  refine T.ret ?_
  refine TQ.rets [4] _ rfl rfl rfl ?_
  have e2 : seenK (tx ps) t k = standsT (tx ps) t := seenK_end (by rw [tx_len]; omega)
  rw [e2] at ho
  have e3 : (standsT (tx ps) t).length = t.length := stands_len hwt rfl
  rw [e3]
  exact ⟨oa, oc, og :: gar, rfl, ho.row List.mem_cons_self, rfl⟩
end Go.Proofs.YteimjjpigohnhaaGreat
/- The reference: times in order; firsts and lasts; frontiers. -/
namespace Go.Proofs.YteimjjpigohnhaaGreat
open Go.Sl
variable {S : Nat → Prop} {w0 : World} {η : Heap}
theorem sortT_take {l : List Tm} {k : Nat} (h : k < l.length) : sortT (l.take (k + 1)) = insT l[k] (sortT (l.take k)) := by
 unfold sortT; rw [List.take_succ_eq_append_getElem h, List.foldl_append]; rfl
/-- What the inner loop of Sorted keeps. -/
def InsI (t : Tm) (os ns : List HL) (j : Nat) (d : Bool) : Prop := insT t (tx os) = if d then tx ns ++ (tx os).drop j else tx ns ++ insT t ((tx os).drop j)
theorem InsI.start (t : Tm) (os : List HL) : InsI t os [] 0 false := by simp [InsI, tx]
theorem InsI.done {t : Tm} {os ns : List HL} {j : Nat} (h : InsI t os ns j true) (hj : j < os.length) : InsI t os (ns ++ [os[j]]) (j + 1) true := by
 unfold InsI at *
 rw [if_pos rfl] at *
 rw [h, tx_drop hj, tx_append]; simp [tx]
theorem InsI.put {t : Tm} {os ns : List HL} {j : Nat} (h : InsI t os ns j false) (hj : j < os.length) (hl : lxl t os[j].2.1 = true) {p : HL} (hp : p.2.1 = t) : InsI t os (ns ++ [p] ++ [os[j]]) (j + 1) true := by
 unfold InsI at *
 rw [if_neg (by simp)] at h
 rw [if_pos rfl, h, tx_drop hj, insT, if_pos hl, tx_append, tx_append]; simp [tx, hp]
theorem InsI.step {t : Tm} {os ns : List HL} {j : Nat} (h : InsI t os ns j false) (hj : j < os.length) (hl : lxl t os[j].2.1 = false) : InsI t os (ns ++ [os[j]]) (j + 1) (decide (t = os[j].2.1)) := by
 unfold InsI at *
 rw [if_neg (by simp)] at h
 rw [h, tx_drop hj, insT, if_neg (by rw [hl]; simp), tx_append]
 by_cases e : t = os[j].2.1
 ·rw [if_pos e, decide_eq_true e, if_pos rfl]; simp [tx]
 ·rw [if_neg e, decide_eq_false e, if_neg (by simp)]; simp [tx]
theorem InsI.last {t : Tm} {os ns : List HL} {j : Nat} (h : InsI t os ns j false) (hj : os.length ≤ j) {p : HL} (hp : p.2.1 = t) : tx (ns ++ [p]) = insT t (tx os) := by
 unfold InsI at h
 rw [if_neg (by simp), List.drop_of_length_le (by rw [tx_len]; exact hj)] at h
 rw [h, tx_append]; simp [tx, insT, hp]
theorem InsI.fin {t : Tm} {os ns : List HL} {j : Nat} (h : InsI t os ns j true) (hj : os.length ≤ j) : tx ns = insT t (tx os) := by
 unfold InsI at h
 rw [if_pos rfl, List.drop_of_length_le (by rw [tx_len]; exact hj)] at h
 rw [h]; simp
structure SoS where
 a : Option Addr
 c : Nat
 l : List HL
 g : Seg
 gar : Heap
abbrev SoS.ok (S : Nat → Prop) (w0 : World) (s : SoS) : Prop := OSl 22 1 (.slice s.a s.l.length s.c) s.l.length (s.l.map hc) s.g ∧ ∀ p ∈ s.l, Row S w0 s.gar p.1 (ints p.2.1)
structure NxS where
 a : Option Addr
 c : Nat
 l : List HL
 g : Seg
 gar : Heap
 d : Bool
set_option maxHeartbeats 2000000 in
theorem Sorted_fn {a : Option Addr} {ps : List HL} {c : Nat} (hx : LL S w0 η a ps) (hl : ps.length < 1073741824) (hlx : ∀ p ∈ ps, p.2.1.length < 1099511627776) {w : Nat} (hw : ∀ p ∈ ps, p.2.1.length = w) :
  Rt Tryz.prog 48 [.slice a ps.length c].toArray S w0 η (fun v η' => ∃ a' cap qs segs, v = .slice a' qs.length cap ∧ tx qs = sortT (tx ps) ∧ η' = segs ++ η ∧ LL S w0 segs a' qs ∧ qs.length ≤ cap) := by
 have hF := open_wide
 refine Rt.of (fn := Tryz.f48) Tryz.func48 rfl rfl ?_
 refine T.seq ?_
 refine T.region ?_
 refine TL.assign hF rfl rfl ?_
 refine TL.nil ?_
 refine TQ.then_n ?_
 refine T.seq ?_
 refine T.region ?_
 refine TL.buildSlice hF rfl (cs := #[]) (e := 22) (fun w => by kernel_rfl) rfl (fun b8 => ?_)
 refine TL.assign hF rfl rfl ?_
 refine TL.nil ?_
 refine TQ.then_n ?_
 refine T.seq ?_
 refine T.seq ?_
 refine T.region ?_
 refine TL.assign hF rfl rfl ?_
 refine TL.nil ?_
 refine TQ.then_n ?_
 refine T.block ?_
 refine T.loop (ι := Nat × SoS) (fun i => match i with | (i, s) => i ≤ ps.length ∧ tx s.l = sortT ((tx ps).take i) ∧ s.ok S w0) (fun i => match i with | (i, s) => [(0, .slice a ps.length c), (3, .slice s.a s.l.length s.c), (4, .int .i64 (i : Int))]) (fun i => match i with | (i, s) => s.g :: (s.gar ++ η)) (fun i => ps.length - i.1) (0, ⟨some ⟨b8, 0, none⟩, 0, [], _, []⟩) ⟨Nat.zero_le _, rfl, osl_empty, fun p hp => by simp at hp⟩ ⟨rfl, rfl, rfl, trivial⟩ rfl ?_
 rintro ⟨i, s⟩ ⟨hi, hts, hso, hsr⟩
 have hsl : s.l.length ≤ i := by have := sortT_len ((tx ps).take i); rw [← hts, tx_len, List.length_take, tx_len] at this; omega
 refine T.seq ?_
 refine T.seq ?_
 refine T.region ?_
 refine TL.move hF rfl rfl ?_
 refine TL.move hF rfl rfl ?_
 refine TL.len hF rfl rfl ?_
 refine TL.bin hF rfl rfl rfl rfl ?_
 refine TL.nil ?_
 refine TQ.then_n ?_
 first | refine T.cond_d rfl (fun ht12 => ?_) (fun ht12 => ?_) | refine T.cond _ rfl (fun ht12 => ?_) (fun ht12 => ?_)
 ·refine T.skip ?_
  refine TQ.then_n ?_
  refine T.seq ?_
  refine T.block ?_
  refine T.seq ?_
  refine T.region ?_
  have hil : i < ps.length := by omega
  have hwi := hw _ (List.getElem_mem hil)
  have hws : ∀ p ∈ s.l, p.2.1.length = w := fun p hp => by
   have h1 : p.2.1 ∈ tx s.l := List.mem_map_of_mem (f := fun p : HL => p.2.1) hp
   rw [hts] at h1
   obtain ⟨q, hq, e⟩ := List.mem_map.1 (List.mem_of_mem_take (mem_sortT.1 h1))
   rw [← e]; exact hw q hq
  refine TL.buildSlice hF rfl (cs := #[]) (e := 22) (fun w => by kernel_rfl) rfl (fun b15 => ?_)
  refine TL.assign hF rfl rfl ?_
  refine TL.assign hF rfl rfl ?_
  refine TL.nil ?_
  refine TQ.then_n ?_
  refine T.seq ?_
  refine T.seq ?_
  refine T.region ?_
  refine TL.assign hF rfl rfl ?_
  refine TL.nil ?_
  refine TQ.then_n ?_
  refine T.block ?_
  refine T.loop (ι := Nat × NxS) (fun j => match j with | (j, n) => j ≤ s.l.length ∧ InsI (ps[i].2.1) s.l n.l j n.d ∧ n.l.length ≤ j + n.d.toNat ∧ OSl 22 1 (.slice n.a n.l.length n.c) n.l.length (n.l.map hc) n.g ∧ (∀ p ∈ n.l, Row S w0 n.gar p.1 (ints p.2.1)) ∧ ∀ x ∈ s.gar, x ∈ n.gar) (fun j => match j with | (j, n) => [(0, .slice a ps.length c), (3, .slice s.a s.l.length s.c), (4, .int .i64 (i : Int)), (5, .slice n.a n.l.length n.c), (6, .bool n.d), (7, .int .i64 (j : Int))]) (fun j => match j with | (j, n) => n.g :: s.g :: (n.gar ++ η)) (fun j => s.l.length - j.1) (0, ⟨some ⟨b15, 0, none⟩, 0, [], _, s.gar, false⟩) ⟨Nat.zero_le _, InsI.start _ _, by simp, osl_empty, fun p hp => by simp at hp, fun x hx => hx⟩ ⟨rfl, rfl, rfl, rfl, rfl, rfl, trivial⟩ rfl ?_
  rintro ⟨j, ⟨na, nc, ns, ng, gar, nd⟩⟩ ⟨hj, hins, hnl, hno, hnr, hgar⟩
  dsimp only at hj hins hnl hno hnr hgar
  have hnl2 : ns.length ≤ j + 1 := by have := Bool.toNat_le nd; omega
  refine T.seq ?_
  refine T.seq ?_
  refine T.region ?_
  refine TL.move hF rfl rfl ?_
  refine TL.move hF rfl rfl ?_
  refine TL.len hF rfl rfl ?_
  refine TL.bin hF rfl rfl rfl rfl ?_
  refine TL.nil ?_
  refine TQ.then_n ?_
  first | refine T.cond_d rfl (fun ht19 => ?_) (fun ht19 => ?_) | refine T.cond _ rfl (fun ht19 => ?_) (fun ht19 => ?_)
  ·refine T.skip ?_
   refine TQ.then_n ?_
   refine T.seq ?_
   refine T.block ?_
   refine T.seq ?_
   refine T.seq ?_
   have hjl : j < s.l.length := by omega
   have hxu : LL S w0 (ng :: s.g :: (gar ++ η)) a ps := (hx.up (fun z hz => by simp [hz]))
   have hsu : Row S w0 (ng :: s.g :: (gar ++ η)) s.a (s.l.map hc) := hso.row (by simp)
   have hsi : Row S w0 (ng :: s.g :: (gar ++ η)) s.l[j].1 (ints s.l[j].2.1) := (hsr _ (List.getElem_mem hjl)).up (fun z hz => by simp [hgar z hz])
   have hat : At S w0 (ng :: s.g :: (gar ++ η)) (sAt s.a (j * 1)) (hc s.l[j]) := by rw [Nat.mul_one]; exact hsu.cell j _ (by simp [hjl])
   have had : ∃ ad, s.a = some ad ∧ ad.spot = none := hsu.adi (i := j) (by simpa using hjl)
   have hwj := hws _ (List.getElem_mem hjl)
   rcases nd with _ | _
   ·refine T.draw ?_
    refine DR.stepV [_] rfl [(6, _, none)] rfl rfl ⟨⟨rfl, by kernel_rfl⟩, trivial⟩ (fun ext => TL.move hF rfl rfl TL.fin) ?_
    refine DR.stepV [_, _] rfl [(22, _, some 0)] rfl rfl ⟨⟨rfl, rfl, rfl⟩, trivial⟩ (fun ext => TL.not hF rfl rfl TL.fin) ?_
    refine DR.stepV [_, _, _] rfl [(23, _, some 1)] rfl rfl ⟨⟨rfl, rfl, rfl⟩, trivial⟩ (fun ext => TL.move hF rfl rfl TL.fin) ?_
    refine DR.stepV [_, _, _, _] rfl [(0, _, none), (24, _, some 2)] rfl rfl ⟨⟨rfl, by kernel_rfl⟩, ⟨rfl, rfl, rfl⟩, trivial⟩ (fun ext => TL.on rfl rfl rfl rfl <| TL.move hF rfl rfl TL.fin) ?_
    refine DR.stepV [_, _, _, _, _] rfl [(4, _, none), (24, _, some 2)] rfl rfl ⟨⟨rfl, by kernel_rfl⟩, ⟨rfl, rfl, rfl⟩, trivial⟩ (fun ext => TL.on rfl rfl rfl rfl <| TL.move hF rfl rfl TL.fin) ?_
    refine DR.stepV [_, _, _, _, _, _] rfl [(25, _, some 3), (26, _, some 4), (24, _, some 2)] rfl rfl ⟨⟨rfl, rfl, rfl⟩, ⟨rfl, rfl, rfl⟩, ⟨rfl, rfl, rfl⟩, trivial⟩ (fun ext => TL.on rfl rfl rfl rfl <| TL.indexAddr hF rfl rfl (hxu.ad hil) (by omega) (by omega) rfl TL.fin) ?_
    refine DR.stepV [_, _, _, _, _, _, _] rfl [(27, _, some 5), (24, _, some 2)] rfl rfl ⟨⟨rfl, rfl, rfl⟩, ⟨rfl, rfl, rfl⟩, trivial⟩ (fun ext => TL.on rfl rfl rfl rfl <| TL.load hF rfl (hxu.at hil) rfl TL.fin) ?_
    refine DR.stepV [_, _, _, _, _, _, _, _] rfl [(3, _, none), (24, _, some 2)] rfl rfl ⟨⟨rfl, by kernel_rfl⟩, ⟨rfl, rfl, rfl⟩, trivial⟩ (fun ext => TL.on rfl rfl rfl rfl <| TL.move hF rfl rfl TL.fin) ?_
    refine DR.stepV [_, _, _, _, _, _, _, _, _] rfl [(7, _, none), (24, _, some 2)] rfl rfl ⟨⟨rfl, by kernel_rfl⟩, ⟨rfl, rfl, rfl⟩, trivial⟩ (fun ext => TL.on rfl rfl rfl rfl <| TL.move hF rfl rfl TL.fin) ?_
    refine DR.stepV [_, _, _, _, _, _, _, _, _, _] rfl [(29, _, some 7), (30, _, some 8), (24, _, some 2)] rfl rfl ⟨⟨rfl, rfl, rfl⟩, ⟨rfl, rfl, rfl⟩, ⟨rfl, rfl, rfl⟩, trivial⟩ (fun ext => TL.on rfl rfl rfl rfl <| TL.indexAddr hF rfl rfl had (by omega) (by omega) rfl TL.fin) ?_
    refine DR.stepV [_, _, _, _, _, _, _, _, _, _, _] rfl [(31, _, some 9), (24, _, some 2)] rfl rfl ⟨⟨rfl, rfl, rfl⟩, ⟨rfl, rfl, rfl⟩, trivial⟩ (fun ext => TL.on rfl rfl rfl rfl <| TL.load hF rfl hat rfl TL.fin) ?_
    refine DR.done [(32, _), (31, _), (30, _), (29, _), (28, _), (27, _), (26, _), (25, _), (24, _), (23, _), (22, _)] [_, _] mixed (by kernel_rfl) (by kernel_rfl) (by kernel_rfl) rfl rfl ?_
    refine TL.on rfl rfl rfl rfl ?_
    refine TL.callV hF (First_fn (hxu.it hil) hsi (hwi.trans hwj.symm) (by have := hlx _ (List.getElem_mem hil); omega)) rfl rfl ?_
    refine TL.pickT hF rfl rfl rfl rfl ?_
    refine TL.nil ?_
    refine TQ.then_n ?_
    refine T.cond _ rfl (fun ht34 => ?_) (fun ht34 => ?_)
    ·refine T.region ?_
     refine TL.move hF rfl rfl ?_
     refine TL.move hF rfl rfl ?_
     refine TL.move hF rfl rfl ?_
     refine TL.indexAddr hF rfl rfl (hxu.ad hil) (by omega) (by omega) rfl ?_
     refine TL.load hF rfl (hxu.at hil) rfl ?_
     refine TL.call hF (Copy_fn (hxu.it hil) (hlx _ (List.getElem_mem _))) rfl rfl ?_
     rintro _ _ ⟨ca, cc, cs, rfl, hcs, rfl⟩
     refine TL.buildSlice hF rfl (cs := #[hc (ca, (ps[i].2.1), cc)]) (e := 22) (fun w => by kernel_rfl) rfl (fun b41 => ?_)
     refine TL.append hF 2 rfl rfl rfl hno (row_own (cs := [hc (ca, (ps[i].2.1), cc)]) (e := 22) (by simp)).src rfl rfl (by simp [hc, Value.oneCell']) (by omega) (by omega) rfl (fun na' nc' ng' hno' => ?_)
     have hxu2 : LL S w0 ([(b41, Obj.cells #[hc (ca, (ps[i].2.1), cc)] 22 (0, 0))] :: cs :: ng' :: s.g :: (gar ++ η)) a ps := hx.up (fun z hz => by simp [hz])
     have hsu2 : Row S w0 ([(b41, Obj.cells #[hc (ca, (ps[i].2.1), cc)] 22 (0, 0))] :: cs :: ng' :: s.g :: (gar ++ η)) s.a (s.l.map hc) := hso.row (by simp)
     have hat2 : At S w0 ([(b41, Obj.cells #[hc (ca, (ps[i].2.1), cc)] 22 (0, 0))] :: cs :: ng' :: s.g :: (gar ++ η)) (sAt s.a (j * 1)) (hc s.l[j]) := by rw [Nat.mul_one]; exact hsu2.cell j _ (by simp [hjl])
     refine TL.assign hF rfl rfl ?_
     refine TL.assign hF rfl rfl ?_
     refine TL.nil ?_
     refine TQ.then_n ?_
     refine T.seq ?_
     refine T.draw ?_
     refine DR.stepV [_] rfl [(6, _, none)] rfl rfl ⟨⟨rfl, by kernel_rfl⟩, trivial⟩ (fun ext => TL.move hF rfl rfl TL.fin) ?_
     refine DR.stepV [_, _] rfl [(43, _, some 0)] rfl rfl ⟨⟨rfl, rfl, rfl⟩, trivial⟩ (fun ext => TL.move hF rfl rfl TL.fin) ?_
     refine DR.stepV [_, _, _] rfl [(0, _, none), (44, _, some 1)] rfl rfl ⟨⟨rfl, by kernel_rfl⟩, ⟨rfl, rfl, rfl⟩, trivial⟩ (fun ext => TL.off hF rfl rfl rfl rfl rfl TL.fin) ?_
     refine DR.stepV [_, _, _, _] rfl [(4, _, none), (44, _, some 1)] rfl rfl ⟨⟨rfl, by kernel_rfl⟩, ⟨rfl, rfl, rfl⟩, trivial⟩ (fun ext => TL.off hF rfl rfl rfl rfl rfl TL.fin) ?_
     refine DR.stepV [_, _, _, _, _] rfl [(45, _, some 2), (46, _, some 3), (44, _, some 1)] rfl rfl ⟨⟨rfl, rfl, rfl⟩, ⟨rfl, rfl, rfl⟩, ⟨rfl, rfl, rfl⟩, trivial⟩ (fun ext => TL.off hF rfl rfl rfl rfl rfl TL.fin) ?_
     refine DR.stepV [_, _, _, _, _, _] rfl [(47, _, some 4), (44, _, some 1)] rfl rfl ⟨⟨rfl, rfl, rfl⟩, ⟨rfl, rfl, rfl⟩, trivial⟩ (fun ext => TL.off hF rfl rfl rfl rfl rfl TL.fin) ?_
     refine DR.stepV [_, _, _, _, _, _, _] rfl [(3, _, none), (44, _, some 1)] rfl rfl ⟨⟨rfl, by kernel_rfl⟩, ⟨rfl, rfl, rfl⟩, trivial⟩ (fun ext => TL.off hF rfl rfl rfl rfl rfl TL.fin) ?_
     refine DR.stepV [_, _, _, _, _, _, _, _] rfl [(7, _, none), (44, _, some 1)] rfl rfl ⟨⟨rfl, by kernel_rfl⟩, ⟨rfl, rfl, rfl⟩, trivial⟩ (fun ext => TL.off hF rfl rfl rfl rfl rfl TL.fin) ?_
     refine DR.stepV [_, _, _, _, _, _, _, _, _] rfl [(49, _, some 6), (50, _, some 7), (44, _, some 1)] rfl rfl ⟨⟨rfl, rfl, rfl⟩, ⟨rfl, rfl, rfl⟩, ⟨rfl, rfl, rfl⟩, trivial⟩ (fun ext => TL.off hF rfl rfl rfl rfl rfl TL.fin) ?_
     refine DR.stepV [_, _, _, _, _, _, _, _, _, _] rfl [(51, _, some 8), (44, _, some 1)] rfl rfl ⟨⟨rfl, rfl, rfl⟩, ⟨rfl, rfl, rfl⟩, trivial⟩ (fun ext => TL.off hF rfl rfl rfl rfl rfl TL.fin) ?_
     refine DR.done [(52, _), (51, _), (50, _), (49, _), (48, _), (47, _), (46, _), (45, _), (44, _), (43, _)] [_, _, _] mixed (by kernel_rfl) (by kernel_rfl) (by kernel_rfl) rfl rfl ?_
     refine TL.off hF rfl rfl rfl rfl rfl ?_
     refine TL.pickT hF rfl rfl rfl rfl ?_
     refine TL.assign hF rfl rfl ?_
     refine TL.nil ?_
     refine TQ.then_n ?_
     refine T.region ?_
     refine TL.move hF rfl rfl ?_
     refine TL.move hF rfl rfl ?_
     refine TL.move hF rfl rfl ?_
     refine TL.indexAddr hF rfl rfl had (by omega) (by omega) rfl ?_
     refine TL.load hF rfl hat2 rfl ?_
     refine TL.buildSlice hF rfl (cs := #[hc s.l[j]]) (e := 22) (fun w => by kernel_rfl) rfl (fun b60 => ?_)
     refine TL.append hF 3 rfl rfl rfl hno' (row_own (cs := [hc s.l[j]]) (e := 22) (by simp)).src rfl rfl (by simp [hc, Value.oneCell']) (by omega) (by omega) rfl (fun na2 nc2 ng2 hno2 => ?_)
     refine TL.assign hF rfl rfl ?_
     refine TL.nil ?_
     refine TQ.block_n ?_
     refine TQ.then_n ?_
     refine T.region ?_
     refine TL.move hF rfl rfl ?_
     refine TL.add hF rfl rfl (by omega) (by omega) rfl ?_
     refine TL.assign hF rfl rfl ?_
     refine TL.nil ?_
     have e4 : ns.length + 1 + 1 = (ns ++ [((ca, (ps[i].2.1), cc) : HL)] ++ [s.l[j]]).length := by simp
     refine TQ.pick [3, 4, 2] [_, _, _, _, _] rfl rfl rfl ?_
     refine TQ.round (j + 1, ⟨na2, nc2, ns ++ [((ca, (ps[i].2.1), cc) : HL)] ++ [s.l[j]], ng2, cs :: gar, true⟩) ⟨by omega, hins.put hjl ht34 rfl, by rw [← e4]; show ns.length + 1 + 1 ≤ j + 1 + 1; have h : ns.length ≤ j := hnl; omega, ?_, fun p hp => ?_, fun x hx => List.mem_cons_of_mem _ (hgar x hx)⟩ (by dsimp only; omega) ⟨rfl, rfl, rfl, congrArg (fun n : Nat => some (Value.slice na2 n nc2)) e4, rfl, rfl, trivial⟩ rfl
     ·dsimp only
      rw [← e4, List.map_append, List.map_append]; exact hno2
     ·rcases List.mem_append.1 hp with h | h
      ·rcases List.mem_append.1 h with h | h
       ·exact (hnr p h).up upc
       ·rw [List.mem_singleton.1 h]; exact hcs.row List.mem_cons_self
      ·rw [List.mem_singleton.1 h]; exact (hsr _ (List.getElem_mem hjl)).up (fun z hz => List.mem_cons_of_mem _ (hgar z hz))
    ·refine T.skip ?_
     refine TQ.then_n ?_
     refine T.seq ?_
     refine T.draw ?_
     refine DR.stepV [_] rfl [(6, _, none)] rfl rfl ⟨⟨rfl, by kernel_rfl⟩, trivial⟩ (fun ext => TL.move hF rfl rfl TL.fin) ?_
     refine DR.stepV [_, _] rfl [(43, _, some 0)] rfl rfl ⟨⟨rfl, rfl, rfl⟩, trivial⟩ (fun ext => TL.move hF rfl rfl TL.fin) ?_
     refine DR.stepV [_, _, _] rfl [(0, _, none), (44, _, some 1)] rfl rfl ⟨⟨rfl, by kernel_rfl⟩, ⟨rfl, rfl, rfl⟩, trivial⟩ (fun ext => TL.on rfl rfl rfl rfl <| TL.move hF rfl rfl TL.fin) ?_
     refine DR.stepV [_, _, _, _] rfl [(4, _, none), (44, _, some 1)] rfl rfl ⟨⟨rfl, by kernel_rfl⟩, ⟨rfl, rfl, rfl⟩, trivial⟩ (fun ext => TL.on rfl rfl rfl rfl <| TL.move hF rfl rfl TL.fin) ?_
     refine DR.stepV [_, _, _, _, _] rfl [(45, _, some 2), (46, _, some 3), (44, _, some 1)] rfl rfl ⟨⟨rfl, rfl, rfl⟩, ⟨rfl, rfl, rfl⟩, ⟨rfl, rfl, rfl⟩, trivial⟩ (fun ext => TL.on rfl rfl rfl rfl <| TL.indexAddr hF rfl rfl (hxu.ad hil) (by omega) (by omega) rfl TL.fin) ?_
     refine DR.stepV [_, _, _, _, _, _] rfl [(47, _, some 4), (44, _, some 1)] rfl rfl ⟨⟨rfl, rfl, rfl⟩, ⟨rfl, rfl, rfl⟩, trivial⟩ (fun ext => TL.on rfl rfl rfl rfl <| TL.load hF rfl (hxu.at hil) rfl TL.fin) ?_
     refine DR.stepV [_, _, _, _, _, _, _] rfl [(3, _, none), (44, _, some 1)] rfl rfl ⟨⟨rfl, by kernel_rfl⟩, ⟨rfl, rfl, rfl⟩, trivial⟩ (fun ext => TL.on rfl rfl rfl rfl <| TL.move hF rfl rfl TL.fin) ?_
     refine DR.stepV [_, _, _, _, _, _, _, _] rfl [(7, _, none), (44, _, some 1)] rfl rfl ⟨⟨rfl, by kernel_rfl⟩, ⟨rfl, rfl, rfl⟩, trivial⟩ (fun ext => TL.on rfl rfl rfl rfl <| TL.move hF rfl rfl TL.fin) ?_
     refine DR.stepV [_, _, _, _, _, _, _, _, _] rfl [(49, _, some 6), (50, _, some 7), (44, _, some 1)] rfl rfl ⟨⟨rfl, rfl, rfl⟩, ⟨rfl, rfl, rfl⟩, ⟨rfl, rfl, rfl⟩, trivial⟩ (fun ext => TL.on rfl rfl rfl rfl <| TL.indexAddr hF rfl rfl had (by omega) (by omega) rfl TL.fin) ?_
     refine DR.stepV [_, _, _, _, _, _, _, _, _, _] rfl [(51, _, some 8), (44, _, some 1)] rfl rfl ⟨⟨rfl, rfl, rfl⟩, ⟨rfl, rfl, rfl⟩, trivial⟩ (fun ext => TL.on rfl rfl rfl rfl <| TL.load hF rfl hat rfl TL.fin) ?_
     refine DR.done [(52, _), (51, _), (50, _), (49, _), (48, _), (47, _), (46, _), (45, _), (44, _), (43, _)] [_, _, _] mixed (by kernel_rfl) (by kernel_rfl) (by kernel_rfl) rfl rfl ?_
     refine TL.on rfl rfl rfl rfl ?_
     refine TL.callV hF (Equal_fn (hxu.it hil) hsi (by have := hlx _ (List.getElem_mem hil); omega)) rfl rfl ?_
     refine TL.pickF hF rfl rfl rfl rfl ?_
     refine TL.assign hF rfl rfl ?_
     refine TL.nil ?_
     refine TQ.then_n ?_
     refine T.region ?_
     refine TL.move hF rfl rfl ?_
     refine TL.move hF rfl rfl ?_
     refine TL.move hF rfl rfl ?_
     refine TL.indexAddr hF rfl rfl had (by omega) (by omega) rfl ?_
     refine TL.load hF rfl hat rfl ?_
     refine TL.buildSlice hF rfl (cs := #[hc s.l[j]]) (e := 22) (fun w => by kernel_rfl) rfl (fun b60 => ?_)
     refine TL.append hF 1 rfl rfl rfl hno (row_own (cs := [hc s.l[j]]) (e := 22) (by simp)).src rfl rfl (by simp [hc, Value.oneCell']) (by omega) (by omega) rfl (fun na2 nc2 ng2 hno2 => ?_)
     refine TL.assign hF rfl rfl ?_
     refine TL.nil ?_
     refine TQ.block_n ?_
     refine TQ.then_n ?_
     refine T.region ?_
     refine TL.move hF rfl rfl ?_
     refine TL.add hF rfl rfl (by omega) (by omega) rfl ?_
     refine TL.assign hF rfl rfl ?_
     refine TL.nil ?_
     have e4 : ns.length + 1 = (ns ++ [s.l[j]]).length := by simp
     refine TQ.pop ?_
     refine TQ.round (j + 1, ⟨na2, nc2, ns ++ [s.l[j]], ng2, gar, decide ((ps[i].2.1) = s.l[j].2.1)⟩) ⟨by omega, hins.step hjl ht34, by rw [← e4]; have h : ns.length ≤ j := hnl; omega, ?_, fun p hp => ?_, hgar⟩ (by dsimp only; omega) ⟨rfl, rfl, rfl, congrArg (fun n : Nat => some (Value.slice na2 n nc2)) e4, rfl, rfl, trivial⟩ rfl
     ·dsimp only
      rw [← e4, List.map_append]; exact hno2
     ·rcases List.mem_append.1 hp with h | h
      ·exact hnr p h
      ·rw [List.mem_singleton.1 h]; exact (hsr _ (List.getElem_mem hjl)).up hgar
   ·refine T.draw ?_
    refine DR.stepV [_] rfl [(6, _, none)] rfl rfl ⟨⟨rfl, by kernel_rfl⟩, trivial⟩ (fun ext => TL.move hF rfl rfl TL.fin) ?_
    refine DR.stepV [_, _] rfl [(22, _, some 0)] rfl rfl ⟨⟨rfl, rfl, rfl⟩, trivial⟩ (fun ext => TL.not hF rfl rfl TL.fin) ?_
    refine DR.stepV [_, _, _] rfl [(23, _, some 1)] rfl rfl ⟨⟨rfl, rfl, rfl⟩, trivial⟩ (fun ext => TL.move hF rfl rfl TL.fin) ?_
    refine DR.stepV [_, _, _, _] rfl [(0, _, none), (24, _, some 2)] rfl rfl ⟨⟨rfl, by kernel_rfl⟩, ⟨rfl, rfl, rfl⟩, trivial⟩ (fun ext => TL.off hF rfl rfl rfl rfl rfl TL.fin) ?_
    refine DR.stepV [_, _, _, _, _] rfl [(4, _, none), (24, _, some 2)] rfl rfl ⟨⟨rfl, by kernel_rfl⟩, ⟨rfl, rfl, rfl⟩, trivial⟩ (fun ext => TL.off hF rfl rfl rfl rfl rfl TL.fin) ?_
    refine DR.stepV [_, _, _, _, _, _] rfl [(25, _, some 3), (26, _, some 4), (24, _, some 2)] rfl rfl ⟨⟨rfl, rfl, rfl⟩, ⟨rfl, rfl, rfl⟩, ⟨rfl, rfl, rfl⟩, trivial⟩ (fun ext => TL.off hF rfl rfl rfl rfl rfl TL.fin) ?_
    refine DR.stepV [_, _, _, _, _, _, _] rfl [(27, _, some 5), (24, _, some 2)] rfl rfl ⟨⟨rfl, rfl, rfl⟩, ⟨rfl, rfl, rfl⟩, trivial⟩ (fun ext => TL.off hF rfl rfl rfl rfl rfl TL.fin) ?_
    refine DR.stepV [_, _, _, _, _, _, _, _] rfl [(3, _, none), (24, _, some 2)] rfl rfl ⟨⟨rfl, by kernel_rfl⟩, ⟨rfl, rfl, rfl⟩, trivial⟩ (fun ext => TL.off hF rfl rfl rfl rfl rfl TL.fin) ?_
    refine DR.stepV [_, _, _, _, _, _, _, _, _] rfl [(7, _, none), (24, _, some 2)] rfl rfl ⟨⟨rfl, by kernel_rfl⟩, ⟨rfl, rfl, rfl⟩, trivial⟩ (fun ext => TL.off hF rfl rfl rfl rfl rfl TL.fin) ?_
    refine DR.stepV [_, _, _, _, _, _, _, _, _, _] rfl [(29, _, some 7), (30, _, some 8), (24, _, some 2)] rfl rfl ⟨⟨rfl, rfl, rfl⟩, ⟨rfl, rfl, rfl⟩, ⟨rfl, rfl, rfl⟩, trivial⟩ (fun ext => TL.off hF rfl rfl rfl rfl rfl TL.fin) ?_
    refine DR.stepV [_, _, _, _, _, _, _, _, _, _, _] rfl [(31, _, some 9), (24, _, some 2)] rfl rfl ⟨⟨rfl, rfl, rfl⟩, ⟨rfl, rfl, rfl⟩, trivial⟩ (fun ext => TL.off hF rfl rfl rfl rfl rfl TL.fin) ?_
    refine DR.done [(32, _), (31, _), (30, _), (29, _), (28, _), (27, _), (26, _), (25, _), (24, _), (23, _), (22, _)] [_, _] mixed (by kernel_rfl) (by kernel_rfl) (by kernel_rfl) rfl rfl ?_
    refine TL.off hF rfl rfl rfl rfl rfl ?_
    refine TL.pickF hF rfl rfl rfl rfl ?_
    refine TL.nil ?_
    refine TQ.then_n ?_
    refine T.cond_f rfl rfl ?_
    refine T.skip ?_
    refine TQ.then_n ?_
    refine T.seq ?_
    refine T.draw ?_
    refine DR.stepV [_] rfl [(6, _, none)] rfl rfl ⟨⟨rfl, by kernel_rfl⟩, trivial⟩ (fun ext => TL.move hF rfl rfl TL.fin) ?_
    refine DR.stepV [_, _] rfl [(43, _, some 0)] rfl rfl ⟨⟨rfl, rfl, rfl⟩, trivial⟩ (fun ext => TL.move hF rfl rfl TL.fin) ?_
    refine DR.stepV [_, _, _] rfl [(0, _, none), (44, _, some 1)] rfl rfl ⟨⟨rfl, by kernel_rfl⟩, ⟨rfl, rfl, rfl⟩, trivial⟩ (fun ext => TL.off hF rfl rfl rfl rfl rfl TL.fin) ?_
    refine DR.stepV [_, _, _, _] rfl [(4, _, none), (44, _, some 1)] rfl rfl ⟨⟨rfl, by kernel_rfl⟩, ⟨rfl, rfl, rfl⟩, trivial⟩ (fun ext => TL.off hF rfl rfl rfl rfl rfl TL.fin) ?_
    refine DR.stepV [_, _, _, _, _] rfl [(45, _, some 2), (46, _, some 3), (44, _, some 1)] rfl rfl ⟨⟨rfl, rfl, rfl⟩, ⟨rfl, rfl, rfl⟩, ⟨rfl, rfl, rfl⟩, trivial⟩ (fun ext => TL.off hF rfl rfl rfl rfl rfl TL.fin) ?_
    refine DR.stepV [_, _, _, _, _, _] rfl [(47, _, some 4), (44, _, some 1)] rfl rfl ⟨⟨rfl, rfl, rfl⟩, ⟨rfl, rfl, rfl⟩, trivial⟩ (fun ext => TL.off hF rfl rfl rfl rfl rfl TL.fin) ?_
    refine DR.stepV [_, _, _, _, _, _, _] rfl [(3, _, none), (44, _, some 1)] rfl rfl ⟨⟨rfl, by kernel_rfl⟩, ⟨rfl, rfl, rfl⟩, trivial⟩ (fun ext => TL.off hF rfl rfl rfl rfl rfl TL.fin) ?_
    refine DR.stepV [_, _, _, _, _, _, _, _] rfl [(7, _, none), (44, _, some 1)] rfl rfl ⟨⟨rfl, by kernel_rfl⟩, ⟨rfl, rfl, rfl⟩, trivial⟩ (fun ext => TL.off hF rfl rfl rfl rfl rfl TL.fin) ?_
    refine DR.stepV [_, _, _, _, _, _, _, _, _] rfl [(49, _, some 6), (50, _, some 7), (44, _, some 1)] rfl rfl ⟨⟨rfl, rfl, rfl⟩, ⟨rfl, rfl, rfl⟩, ⟨rfl, rfl, rfl⟩, trivial⟩ (fun ext => TL.off hF rfl rfl rfl rfl rfl TL.fin) ?_
    refine DR.stepV [_, _, _, _, _, _, _, _, _, _] rfl [(51, _, some 8), (44, _, some 1)] rfl rfl ⟨⟨rfl, rfl, rfl⟩, ⟨rfl, rfl, rfl⟩, trivial⟩ (fun ext => TL.off hF rfl rfl rfl rfl rfl TL.fin) ?_
    refine DR.done [(52, _), (51, _), (50, _), (49, _), (48, _), (47, _), (46, _), (45, _), (44, _), (43, _)] [_, _, _] mixed (by kernel_rfl) (by kernel_rfl) (by kernel_rfl) rfl rfl ?_
    refine TL.off hF rfl rfl rfl rfl rfl ?_
    refine TL.pickT hF rfl rfl rfl rfl ?_
    refine TL.assign hF rfl rfl ?_
    refine TL.nil ?_
    refine TQ.then_n ?_
    refine T.region ?_
    refine TL.move hF rfl rfl ?_
    refine TL.move hF rfl rfl ?_
    refine TL.move hF rfl rfl ?_
    refine TL.indexAddr hF rfl rfl had (by omega) (by omega) rfl ?_
    refine TL.load hF rfl hat rfl ?_
    refine TL.buildSlice hF rfl (cs := #[hc s.l[j]]) (e := 22) (fun w => by kernel_rfl) rfl (fun b60 => ?_)
    refine TL.append hF 1 rfl rfl rfl hno (row_own (cs := [hc s.l[j]]) (e := 22) (by simp)).src rfl rfl (by simp [hc, Value.oneCell']) (by omega) (by omega) rfl (fun na2 nc2 ng2 hno2 => ?_)
    refine TL.assign hF rfl rfl ?_
    refine TL.nil ?_
    refine TQ.block_n ?_
    refine TQ.then_n ?_
    refine T.region ?_
    refine TL.move hF rfl rfl ?_
    refine TL.add hF rfl rfl (by omega) (by omega) rfl ?_
    refine TL.assign hF rfl rfl ?_
    refine TL.nil ?_
    have e4 : ns.length + 1 = (ns ++ [s.l[j]]).length := by simp
    refine TQ.pop ?_
    refine TQ.round (j + 1, ⟨na2, nc2, ns ++ [s.l[j]], ng2, gar, true⟩) ⟨by omega, hins.done hjl, by rw [← e4]; show ns.length + 1 ≤ j + 1 + 1; omega, ?_, fun p hp => ?_, hgar⟩ (by dsimp only; omega) ⟨rfl, rfl, rfl, congrArg (fun n : Nat => some (Value.slice na2 n nc2)) e4, rfl, rfl, trivial⟩ rfl
    ·dsimp only
     rw [← e4, List.map_append]; exact hno2
    ·rcases List.mem_append.1 hp with h | h
     ·exact hnr p h
     ·rw [List.mem_singleton.1 h]; exact (hsr _ (List.getElem_mem hjl)).up hgar
  ·refine T.exit ?_
   refine TQ.then_x ?_
   refine TQ.then_x ?_
   refine TQ.block_x ?_
   refine TQ.then_n ?_
   refine T.seq ?_
   refine T.seq ?_
   refine T.region ?_
   refine TL.move hF rfl rfl ?_
   refine TL.not hF rfl rfl ?_
   refine TL.nil ?_
   refine TQ.then_n ?_
   refine T.cond _ rfl (fun ht63 => ?_) (fun ht63 => ?_)
   all_goals simp only [Bool.not_eq_true', Bool.not_eq_false'] at ht63
   all_goals subst ht63
   ·refine T.region ?_
    refine TL.move hF rfl rfl ?_
    refine TL.move hF rfl rfl ?_
    refine TL.move hF rfl rfl ?_
    have hxu : LL S w0 (ng :: s.g :: (gar ++ η)) a ps := (hx.up (fun z hz => by simp [hz]))
    refine TL.indexAddr hF rfl rfl (hxu.ad hil) (by omega) (by omega) rfl ?_
    refine TL.load hF rfl (hxu.at hil) rfl ?_
    refine TL.call hF (Copy_fn (hxu.it hil) (hlx _ (List.getElem_mem _))) rfl rfl ?_
    rintro _ _ ⟨ca, cc, cs, rfl, hcs, rfl⟩
    refine TL.buildSlice hF rfl (cs := #[hc (ca, (ps[i].2.1), cc)]) (e := 22) (fun w => by kernel_rfl) rfl (fun b70 => ?_)
    refine TL.append hF 2 rfl rfl rfl hno (row_own (cs := [hc (ca, (ps[i].2.1), cc)]) (e := 22) (by simp)).src rfl rfl (by simp [hc, Value.oneCell']) (by omega) (by omega) rfl (fun na' nc' ng' hno' => ?_)
    refine TL.assign hF rfl rfl ?_
    refine TL.nil ?_
    refine TQ.then_n ?_
    refine T.region ?_
    refine TL.move hF rfl rfl ?_
    refine TL.assign hF rfl rfl ?_
    refine TL.nil ?_
    refine TQ.block_n ?_
    refine TQ.then_n ?_
    refine T.region ?_
    refine TL.move hF rfl rfl ?_
    refine TL.add hF rfl rfl (by omega) (by omega) rfl ?_
    refine TL.assign hF rfl rfl ?_
    refine TL.nil ?_
    have e4 : ns.length + 1 = (ns ++ [((ca, (ps[i].2.1), cc) : HL)]).length := by simp
    refine TQ.pick [2, 3, 1] [_, _, _, _] rfl rfl rfl ?_
    refine TQ.round (i + 1, ⟨na', nc', ns ++ [((ca, (ps[i].2.1), cc) : HL)], ng', s.g :: cs :: gar⟩) ⟨by omega, ?_, ?_, fun p hp => ?_⟩ (by dsimp only; omega) ⟨rfl, congrArg (fun n : Nat => some (Value.slice na' n nc')) e4, rfl, trivial⟩ rfl
    ·dsimp only
     rw [hins.last (p := (ca, ps[i].2.1, cc)) (by omega) rfl, sortT_take (by rw [tx_len]; exact hil), tx_get hil, hts]
    ·dsimp only
     rw [← e4, List.map_append]; exact hno'
    ·rcases List.mem_append.1 hp with h | h
     ·exact (hnr p h).up (fun z hz => by simp [hz])
     ·rw [List.mem_singleton.1 h]; exact hcs.row (by simp)
   ·refine T.skip ?_
    refine TQ.then_n ?_
    refine T.region ?_
    refine TL.move hF rfl rfl ?_
    refine TL.assign hF rfl rfl ?_
    refine TL.nil ?_
    refine TQ.block_n ?_
    refine TQ.then_n ?_
    refine T.region ?_
    refine TL.move hF rfl rfl ?_
    refine TL.add hF rfl rfl (by omega) (by omega) rfl ?_
    refine TL.assign hF rfl rfl ?_
    refine TL.nil ?_
    refine TQ.round (i + 1, ⟨na, nc, ns, ng, s.g :: gar⟩) ⟨by omega, ?_, hno, fun p hp => (hnr p hp).up upc⟩ (by dsimp only; omega) ⟨rfl, rfl, rfl, trivial⟩ rfl
    rw [hins.fin (by omega), sortT_take (by rw [tx_len]; exact hil), tx_get hil, hts]
 ·refine T.exit ?_
  refine TQ.then_x ?_
  refine TQ.then_x ?_
  refine TQ.block_x ?_
  refine TQ.then_n ?_
  refine T.seq ?_
  refine T.region ?_
  refine TL.move hF rfl rfl ?_
  refine TL.assign hF rfl rfl ?_
  refine TL.nil ?_
  refine TQ.then_n ?_
  refine T.ret ?_
  refine TQ.rets [2] _ rfl rfl rfl ?_
  have hin : i = ps.length := by omega
  refine ⟨s.a, s.c, s.l, s.g :: s.gar, rfl, by rw [hts, List.take_of_length_le (by rw [tx_len]; omega)], rfl, ⟨hso.row List.mem_cons_self, fun p hp => (hsr p hp).up upc⟩, osl_cap hso⟩
end Go.Proofs.YteimjjpigohnhaaGreat
/- The reference: firsts and lasts; what frontiers are. -/
namespace Go.Proofs.YteimjjpigohnhaaGreat
open Go.Sl
variable {S : Nat → Prop} {w0 : World} {η : Heap}
/-- Is no other one of these so to this one? -/
def prT (le : Tm → Tm → Bool) (s : List Tm) (t : Tm) : Bool := s.all fun o => decide (o = t) || !le o t
theorem prT_at {le : Tm → Tm → Bool} {s : List Tm} (hn : s.Nodup) {i : Nat} (hi : i < s.length) : prT le s s[i] = true ↔ ∀ k (h : k < s.length), k = i ∨ le s[k] s[i] = false := by
 unfold prT
 rw [List.all_eq_true]
 constructor
 ·intro h k hk
  have h1 := h s[k] (List.getElem_mem hk)
  rw [Bool.or_eq_true] at h1
  rcases h1 with h1 | h1
  ·left; exact (List.getElem_inj hn).1 (of_decide_eq_true h1)
  ·right; simpa using h1
 ·intro h o ho
  obtain ⟨k, hk, rfl⟩ := List.getElem_of_mem ho
  rcases h k hk with e | e
  ·subst e; simp
  ·simp [e]
theorem outT_prT (le : Tm → Tm → Bool) (l : List Tm) : outT le l = (sortT l).filter (prT le (sortT l)) := rfl
set_option maxHeartbeats 2000000 in
theorem Earliest_fn {a : Option Addr} {ps : List HL} {c : Nat} (hx : LL S w0 η a ps) (hl : ps.length < 1073741824) (hlx : ∀ p ∈ ps, p.2.1.length < 1099511627776) {w : Nat} (hw : ∀ p ∈ ps, p.2.1.length = w) :
  Rt Tryz.prog 98 [.slice a ps.length c].toArray S w0 η (fun v η' => ∃ a' cap qs segs, v = .slice a' qs.length cap ∧ tx qs = outT tle (tx ps) ∧ η' = segs ++ η ∧ LL S w0 segs a' qs ∧ qs.length ≤ cap) := by
 have hF := open_wide
 refine Rt.of (fn := Tryz.f98) Tryz.func98 rfl rfl ?_
 refine T.seq ?_
 refine T.region ?_
 refine TL.assign hF rfl rfl ?_
 refine TL.nil ?_
 refine TQ.then_n ?_
 refine T.seq ?_
 refine T.region ?_
 refine TL.move hF rfl rfl ?_
 refine TL.call hF (Sorted_fn hx hl hlx hw) rfl rfl ?_
 rintro _ _ ⟨a2, c2, qs, segs, rfl, htq, rfl, hll, _⟩
 have hwt : Wid w (tx ps) := fun x hx => by obtain ⟨p, hp, rfl⟩ := List.mem_map.1 hx; exact hw p hp
 have hwq : ∀ p ∈ qs, p.2.1.length = w := fun p hp => hwt _ (mem_sortT.1 (htq ▸ List.mem_map_of_mem hp))
 have hql : qs.length ≤ ps.length := by have := sortT_len (tx ps); rw [← htq, tx_len, tx_len] at this; exact this
 have hnd : (tx qs).Nodup := by rw [htq]; exact (ord_sortT hwt).nodup
 have hwl : qs.length ≠ 0 → w < 1099511627776 := fun h => by
  have h1 : (tx qs) ≠ [] := fun e => by have := congrArg List.length e; rw [tx_len] at this; exact h this
  cases hqs : tx qs with
  | nil => exact absurd hqs h1
  | cons t r =>
   have h2 : t ∈ tx ps := by rw [← mem_sortT, ← htq, hqs]; exact List.mem_cons_self
   obtain ⟨p, hp, rfl⟩ := List.mem_map.1 h2
   rw [← hw p hp]; exact hlx p hp
 refine TL.freeze segs rfl (fun S1 w1 hz => ?_)
 have hq1 := hll.frz hz
 refine TL.assign hF rfl rfl ?_
 refine TL.nil ?_
 refine TQ.then_n ?_
 refine T.seq ?_
 refine T.region ?_
 refine TL.buildSlice hF rfl (cs := #[]) (e := 22) (fun w => by kernel_rfl) rfl (fun b9 => ?_)
 refine TL.assign hF rfl rfl ?_
 refine TL.nil ?_
 refine TQ.then_n ?_
 refine T.seq ?_
 refine T.seq ?_
 refine T.region ?_
 refine TL.assign hF rfl rfl ?_
 refine TL.nil ?_
 refine TQ.then_n ?_
 refine T.block ?_
 refine T.loop (ι := Nat × Option Addr × Nat × Seg) (fun i => i.1 ≤ qs.length ∧ OSl 22 1 (.slice i.2.1 ((qs.take i.1).filter (fun p : HL => prT tle (tx qs) p.2.1)).length i.2.2.1) ((qs.take i.1).filter (fun p : HL => prT tle (tx qs) p.2.1)).length (((qs.take i.1).filter (fun p : HL => prT tle (tx qs) p.2.1)).map hc) i.2.2.2) (fun i => [(0, .slice a2 qs.length c2), (3, .slice i.2.1 ((qs.take i.1).filter (fun p : HL => prT tle (tx qs) p.2.1)).length i.2.2.1), (4, .int .i64 (i.1 : Int))]) (fun i => i.2.2.2 :: η) (fun i => qs.length - i.1) (0, some ⟨b9, 0, none⟩, 0, _) ⟨Nat.zero_le _, osl_empty⟩ ⟨rfl, rfl, rfl, trivial⟩ rfl ?_
 rintro ⟨i, oa, oc, og⟩ ⟨hi, ho⟩
 dsimp only at hi ho
 refine T.seq ?_
 refine T.seq ?_
 refine T.region ?_
 refine TL.move hF rfl rfl ?_
 refine TL.move hF rfl rfl ?_
 refine TL.len hF rfl rfl ?_
 refine TL.bin hF rfl rfl rfl rfl ?_
 refine TL.nil ?_
 refine TQ.then_n ?_
 first | refine T.cond_d rfl (fun ht13 => ?_) (fun ht13 => ?_) | refine T.cond _ rfl (fun ht13 => ?_) (fun ht13 => ?_)
 ·refine T.skip ?_
  refine TQ.then_n ?_
  refine T.seq ?_
  refine T.block ?_
  refine T.seq ?_
  refine T.region ?_
  refine TL.assign hF rfl rfl ?_
  refine TL.nil ?_
  refine TQ.then_n ?_
  refine T.seq ?_
  refine T.seq ?_
  refine T.region ?_
  refine TL.assign hF rfl rfl ?_
  refine TL.nil ?_
  refine TQ.then_n ?_
  refine T.block ?_
  have hiq : i < qs.length := by omega
  have hwl2 := hwl (by omega)
  have hfl : ((qs.take i).filter (fun p : HL => prT tle (tx qs) p.2.1)).length ≤ i := Nat.le_trans (List.length_filter_le _ _) (by rw [List.length_take]; omega)
  refine T.loop (ι := Nat × Bool) (fun j => j.1 ≤ qs.length ∧ (j.2 = true ↔ ∀ k (h : k < qs.length), k < j.1 → k = i ∨ tle qs[k].2.1 qs[i].2.1 = false)) (fun j => [(0, .slice a2 qs.length c2), (3, .slice oa ((qs.take i).filter (fun p : HL => prT tle (tx qs) p.2.1)).length oc), (4, .int .i64 (i : Int)), (5, .bool j.2), (6, .int .i64 (j.1 : Int))]) (fun _ => og :: η) (fun j => qs.length - j.1) (0, true) ⟨Nat.zero_le _, by simp⟩ ⟨rfl, rfl, rfl, rfl, rfl, trivial⟩ rfl ?_
  rintro ⟨j, is⟩ ⟨hj, his⟩
  dsimp only at hj his
  refine T.seq ?_
  refine T.seq ?_
  refine T.region ?_
  refine TL.move hF rfl rfl ?_
  refine TL.move hF rfl rfl ?_
  refine TL.len hF rfl rfl ?_
  refine TL.bin hF rfl rfl rfl rfl ?_
  refine TL.nil ?_
  refine TQ.then_n ?_
  first | refine T.cond_d rfl (fun ht19 => ?_) (fun ht19 => ?_) | refine T.cond _ rfl (fun ht19 => ?_) (fun ht19 => ?_)
  ·refine T.skip ?_
   refine TQ.then_n ?_
   refine T.seq ?_
   refine T.block ?_
   have hjq : j < qs.length := by omega
   rcases is with _ | _
   rotate_left
   by_cases hji : (j : Int) = (i : Int)
   ·refine T.draw ?_
    refine DR.stepV [_] rfl [(5, _, none)] rfl rfl ⟨⟨rfl, by kernel_rfl⟩, trivial⟩ (fun ext => TL.move hF rfl rfl TL.fin) ?_
    refine DR.stepV [_, _] rfl [(22, _, some 0)] rfl rfl ⟨⟨rfl, rfl, rfl⟩, trivial⟩ (fun ext => TL.move hF rfl rfl TL.fin) ?_
    refine DR.stepV [_, _, _] rfl [(6, _, none), (23, _, some 1)] rfl rfl ⟨⟨rfl, by kernel_rfl⟩, ⟨rfl, rfl, rfl⟩, trivial⟩ (fun ext => TL.on rfl rfl rfl rfl <| TL.move hF rfl rfl TL.fin) ?_
    refine DR.stepV [_, _, _, _] rfl [(4, _, none), (23, _, some 1)] rfl rfl ⟨⟨rfl, by kernel_rfl⟩, ⟨rfl, rfl, rfl⟩, trivial⟩ (fun ext => TL.on rfl rfl rfl rfl <| TL.move hF rfl rfl TL.fin) ?_
    refine DR.stepV [_, _, _, _, _] rfl [(24, _, some 2), (25, _, some 3), (23, _, some 1)] rfl rfl ⟨⟨rfl, rfl, rfl⟩, ⟨rfl, rfl, rfl⟩, ⟨rfl, rfl, rfl⟩, trivial⟩ (fun ext => TL.on rfl rfl rfl rfl <| TL.bin hF rfl rfl rfl rfl TL.fin) ?_
    refine DR.stepV [_, _, _, _, _, _] rfl [(26, _, some 4), (23, _, some 1)] rfl rfl ⟨⟨rfl, rfl, rfl⟩, ⟨rfl, rfl, rfl⟩, trivial⟩ (fun ext => TL.on rfl rfl rfl rfl <| TL.move hF rfl rfl TL.fin) ?_
    refine DR.stepV [_, _, _, _, _, _, _] rfl [(0, _, none), (27, _, some 5)] rfl rfl ⟨⟨rfl, by kernel_rfl⟩, ⟨rfl, rfl, rfl⟩, trivial⟩ (fun ext => TL.off hF rfl rfl rfl (decide_eq_true hji) rfl TL.fin) ?_
    refine DR.stepV [_, _, _, _, _, _, _, _] rfl [(6, _, none), (27, _, some 5)] rfl rfl ⟨⟨rfl, by kernel_rfl⟩, ⟨rfl, rfl, rfl⟩, trivial⟩ (fun ext => TL.off hF rfl rfl rfl (decide_eq_true hji) rfl TL.fin) ?_
    refine DR.stepV [_, _, _, _, _, _, _, _, _] rfl [(28, _, some 6), (29, _, some 7), (27, _, some 5)] rfl rfl ⟨⟨rfl, rfl, rfl⟩, ⟨rfl, rfl, rfl⟩, ⟨rfl, rfl, rfl⟩, trivial⟩ (fun ext => TL.off hF rfl rfl rfl (decide_eq_true hji) rfl TL.fin) ?_
    refine DR.stepV [_, _, _, _, _, _, _, _, _, _] rfl [(30, _, some 8), (27, _, some 5)] rfl rfl ⟨⟨rfl, rfl, rfl⟩, ⟨rfl, rfl, rfl⟩, trivial⟩ (fun ext => TL.off hF rfl rfl rfl (decide_eq_true hji) rfl TL.fin) ?_
    refine DR.stepV [_, _, _, _, _, _, _, _, _, _, _] rfl [(0, _, none), (27, _, some 5)] rfl rfl ⟨⟨rfl, by kernel_rfl⟩, ⟨rfl, rfl, rfl⟩, trivial⟩ (fun ext => TL.off hF rfl rfl rfl (decide_eq_true hji) rfl TL.fin) ?_
    refine DR.stepV [_, _, _, _, _, _, _, _, _, _, _, _] rfl [(4, _, none), (27, _, some 5)] rfl rfl ⟨⟨rfl, by kernel_rfl⟩, ⟨rfl, rfl, rfl⟩, trivial⟩ (fun ext => TL.off hF rfl rfl rfl (decide_eq_true hji) rfl TL.fin) ?_
    refine DR.stepV [_, _, _, _, _, _, _, _, _, _, _, _, _] rfl [(32, _, some 10), (33, _, some 11), (27, _, some 5)] rfl rfl ⟨⟨rfl, rfl, rfl⟩, ⟨rfl, rfl, rfl⟩, ⟨rfl, rfl, rfl⟩, trivial⟩ (fun ext => TL.off hF rfl rfl rfl (decide_eq_true hji) rfl TL.fin) ?_
    refine DR.stepV [_, _, _, _, _, _, _, _, _, _, _, _, _, _] rfl [(34, _, some 12), (27, _, some 5)] rfl rfl ⟨⟨rfl, rfl, rfl⟩, ⟨rfl, rfl, rfl⟩, trivial⟩ (fun ext => TL.off hF rfl rfl rfl (decide_eq_true hji) rfl TL.fin) ?_
    refine DR.done [(35, _), (34, _), (33, _), (32, _), (31, _), (30, _), (29, _), (28, _), (27, _), (26, _), (25, _), (24, _), (23, _), (22, _)] [_, _, _, _, _] mixed (by kernel_rfl) (by kernel_rfl) (by kernel_rfl) rfl rfl ?_
    refine TL.off hF rfl rfl rfl (decide_eq_true hji) rfl ?_
    refine TL.off hF rfl rfl rfl (decide_eq_true hji) rfl ?_
    refine TL.on rfl rfl rfl rfl ?_
    refine TL.pickT hF rfl (decide_eq_true hji) rfl rfl ?_
    refine TL.pickT hF rfl rfl rfl rfl ?_
    refine TL.assign hF rfl rfl ?_
    refine TL.nil ?_
    refine TQ.block_n ?_
    refine TQ.then_n ?_
    refine T.region ?_
    refine TL.move hF rfl rfl ?_
    refine TL.add hF rfl rfl (by omega) (by omega) rfl ?_
    refine TL.assign hF rfl rfl ?_
    refine TL.nil ?_
    refine TQ.round (j + 1, true) ⟨by dsimp only; omega, ?_⟩ (by dsimp only; omega) ⟨rfl, rfl, rfl, rfl, rfl, trivial⟩ rfl
    refine ⟨fun _ k h1 h2 => ?_, fun _ => rfl⟩
    by_cases e : k = j
    ·left; omega
    ·exact his.1 rfl k h1 (by dsimp only at h2; omega)
   ·refine T.draw ?_
    refine DR.stepV [_] rfl [(5, _, none)] rfl rfl ⟨⟨rfl, by kernel_rfl⟩, trivial⟩ (fun ext => TL.move hF rfl rfl TL.fin) ?_
    refine DR.stepV [_, _] rfl [(22, _, some 0)] rfl rfl ⟨⟨rfl, rfl, rfl⟩, trivial⟩ (fun ext => TL.move hF rfl rfl TL.fin) ?_
    refine DR.stepV [_, _, _] rfl [(6, _, none), (23, _, some 1)] rfl rfl ⟨⟨rfl, by kernel_rfl⟩, ⟨rfl, rfl, rfl⟩, trivial⟩ (fun ext => TL.on rfl rfl rfl rfl <| TL.move hF rfl rfl TL.fin) ?_
    refine DR.stepV [_, _, _, _] rfl [(4, _, none), (23, _, some 1)] rfl rfl ⟨⟨rfl, by kernel_rfl⟩, ⟨rfl, rfl, rfl⟩, trivial⟩ (fun ext => TL.on rfl rfl rfl rfl <| TL.move hF rfl rfl TL.fin) ?_
    refine DR.stepV [_, _, _, _, _] rfl [(24, _, some 2), (25, _, some 3), (23, _, some 1)] rfl rfl ⟨⟨rfl, rfl, rfl⟩, ⟨rfl, rfl, rfl⟩, ⟨rfl, rfl, rfl⟩, trivial⟩ (fun ext => TL.on rfl rfl rfl rfl <| TL.bin hF rfl rfl rfl rfl TL.fin) ?_
    refine DR.stepV [_, _, _, _, _, _] rfl [(26, _, some 4), (23, _, some 1)] rfl rfl ⟨⟨rfl, rfl, rfl⟩, ⟨rfl, rfl, rfl⟩, trivial⟩ (fun ext => TL.on rfl rfl rfl rfl <| TL.move hF rfl rfl TL.fin) ?_
    refine DR.stepV [_, _, _, _, _, _, _] rfl [(0, _, none), (27, _, some 5)] rfl rfl ⟨⟨rfl, by kernel_rfl⟩, ⟨rfl, rfl, rfl⟩, trivial⟩ (fun ext => TL.on rfl rfl rfl (decide_eq_false hji) <| TL.move hF rfl rfl TL.fin) ?_
    refine DR.stepV [_, _, _, _, _, _, _, _] rfl [(6, _, none), (27, _, some 5)] rfl rfl ⟨⟨rfl, by kernel_rfl⟩, ⟨rfl, rfl, rfl⟩, trivial⟩ (fun ext => TL.on rfl rfl rfl (decide_eq_false hji) <| TL.move hF rfl rfl TL.fin) ?_
    refine DR.stepV [_, _, _, _, _, _, _, _, _] rfl [(28, _, some 6), (29, _, some 7), (27, _, some 5)] rfl rfl ⟨⟨rfl, rfl, rfl⟩, ⟨rfl, rfl, rfl⟩, ⟨rfl, rfl, rfl⟩, trivial⟩ (fun ext => TL.on rfl rfl rfl (decide_eq_false hji) <| TL.indexAddr hF rfl rfl (hq1.ad (i := j) (by omega)) (by omega) (by omega) rfl TL.fin) ?_
    refine DR.stepV [_, _, _, _, _, _, _, _, _, _] rfl [(30, _, some 8), (27, _, some 5)] rfl rfl ⟨⟨rfl, rfl, rfl⟩, ⟨rfl, rfl, rfl⟩, trivial⟩ (fun ext => TL.on rfl rfl rfl (decide_eq_false hji) <| TL.load hF rfl (hq1.ro.at (i := j) (by omega)) rfl TL.fin) ?_
    refine DR.stepV [_, _, _, _, _, _, _, _, _, _, _] rfl [(0, _, none), (27, _, some 5)] rfl rfl ⟨⟨rfl, by kernel_rfl⟩, ⟨rfl, rfl, rfl⟩, trivial⟩ (fun ext => TL.on rfl rfl rfl (decide_eq_false hji) <| TL.move hF rfl rfl TL.fin) ?_
    refine DR.stepV [_, _, _, _, _, _, _, _, _, _, _, _] rfl [(4, _, none), (27, _, some 5)] rfl rfl ⟨⟨rfl, by kernel_rfl⟩, ⟨rfl, rfl, rfl⟩, trivial⟩ (fun ext => TL.on rfl rfl rfl (decide_eq_false hji) <| TL.move hF rfl rfl TL.fin) ?_
    refine DR.stepV [_, _, _, _, _, _, _, _, _, _, _, _, _] rfl [(32, _, some 10), (33, _, some 11), (27, _, some 5)] rfl rfl ⟨⟨rfl, rfl, rfl⟩, ⟨rfl, rfl, rfl⟩, ⟨rfl, rfl, rfl⟩, trivial⟩ (fun ext => TL.on rfl rfl rfl (decide_eq_false hji) <| TL.indexAddr hF rfl rfl (hq1.ad (i := i) (by omega)) (by omega) (by omega) rfl TL.fin) ?_
    refine DR.stepV [_, _, _, _, _, _, _, _, _, _, _, _, _, _] rfl [(34, _, some 12), (27, _, some 5)] rfl rfl ⟨⟨rfl, rfl, rfl⟩, ⟨rfl, rfl, rfl⟩, trivial⟩ (fun ext => TL.on rfl rfl rfl (decide_eq_false hji) <| TL.load hF rfl (hq1.ro.at (i := i) (by omega)) rfl TL.fin) ?_
    refine DR.done [(35, _), (34, _), (33, _), (32, _), (31, _), (30, _), (29, _), (28, _), (27, _), (26, _), (25, _), (24, _), (23, _), (22, _)] [_, _, _, _, _] mixed (by kernel_rfl) (by kernel_rfl) (by kernel_rfl) rfl rfl ?_
    refine TL.on rfl rfl rfl (decide_eq_false hji) ?_
    refine TL.callV hF (AtOrBefore_fn (hq1.ro.it (i := j) (by omega)) (hq1.ro.it (i := i) (by omega)) ((hwq _ (List.getElem_mem _)).trans (hwq _ (List.getElem_mem _)).symm) (by rw [hwq _ (List.getElem_mem _)]; omega)) rfl rfl ?_
    refine TL.on rfl rfl rfl (decide_eq_false hji) ?_
    refine TL.not hF rfl rfl ?_
    refine TL.on rfl rfl rfl rfl ?_
    refine TL.pickF hF rfl (decide_eq_false hji) rfl rfl ?_
    refine TL.pickT hF rfl rfl rfl rfl ?_
    refine TL.assign hF rfl rfl ?_
    refine TL.nil ?_
    refine TQ.block_n ?_
    refine TQ.then_n ?_
    refine T.region ?_
    refine TL.move hF rfl rfl ?_
    refine TL.add hF rfl rfl (by omega) (by omega) rfl ?_
    refine TL.assign hF rfl rfl ?_
    refine TL.nil ?_
    refine TQ.round (j + 1, !(tle qs[j].2.1 qs[i].2.1)) ⟨by dsimp only; omega, ?_⟩ (by dsimp only; omega) ⟨rfl, rfl, rfl, rfl, rfl, trivial⟩ rfl
    dsimp only
    constructor
    ·intro h k h1 h2
     by_cases e : k = j
     ·subst e; right; simpa using h
     ·exact his.1 rfl k h1 (by omega)
    ·intro h
     rcases h j hjq (by omega) with e | e
     ·omega
     ·simp [e]
   ·refine T.draw ?_
    refine DR.stepV [_] rfl [(5, _, none)] rfl rfl ⟨⟨rfl, by kernel_rfl⟩, trivial⟩ (fun ext => TL.move hF rfl rfl TL.fin) ?_
    refine DR.stepV [_, _] rfl [(22, _, some 0)] rfl rfl ⟨⟨rfl, rfl, rfl⟩, trivial⟩ (fun ext => TL.move hF rfl rfl TL.fin) ?_
    refine DR.stepV [_, _, _] rfl [(6, _, none), (23, _, some 1)] rfl rfl ⟨⟨rfl, by kernel_rfl⟩, ⟨rfl, rfl, rfl⟩, trivial⟩ (fun ext => TL.off hF rfl rfl rfl rfl rfl TL.fin) ?_
    refine DR.stepV [_, _, _, _] rfl [(4, _, none), (23, _, some 1)] rfl rfl ⟨⟨rfl, by kernel_rfl⟩, ⟨rfl, rfl, rfl⟩, trivial⟩ (fun ext => TL.off hF rfl rfl rfl rfl rfl TL.fin) ?_
    refine DR.stepV [_, _, _, _, _] rfl [(24, _, some 2), (25, _, some 3), (23, _, some 1)] rfl rfl ⟨⟨rfl, rfl, rfl⟩, ⟨rfl, rfl, rfl⟩, ⟨rfl, rfl, rfl⟩, trivial⟩ (fun ext => TL.off hF rfl rfl rfl rfl rfl TL.fin) ?_
    refine DR.stepV [_, _, _, _, _, _] rfl [(26, _, some 4), (23, _, some 1)] rfl rfl ⟨⟨rfl, rfl, rfl⟩, ⟨rfl, rfl, rfl⟩, trivial⟩ (fun ext => TL.off hF rfl rfl rfl rfl rfl TL.fin) ?_
    refine DR.stepV [_, _, _, _, _, _, _] rfl [(0, _, none), (27, _, some 5)] rfl rfl ⟨⟨rfl, by kernel_rfl⟩, ⟨rfl, rfl, rfl⟩, trivial⟩ (fun ext => TL.offU hF rfl rfl rfl rfl TL.fin) ?_
    refine DR.stepV [_, _, _, _, _, _, _, _] rfl [(6, _, none), (27, _, some 5)] rfl rfl ⟨⟨rfl, by kernel_rfl⟩, ⟨rfl, rfl, rfl⟩, trivial⟩ (fun ext => TL.offU hF rfl rfl rfl rfl TL.fin) ?_
    refine DR.stepV [_, _, _, _, _, _, _, _, _] rfl [(28, _, some 6), (29, _, some 7), (27, _, some 5)] rfl rfl ⟨⟨rfl, rfl, rfl⟩, ⟨rfl, rfl, rfl⟩, ⟨rfl, rfl, rfl⟩, trivial⟩ (fun ext => TL.offU hF rfl rfl rfl rfl TL.fin) ?_
    refine DR.stepV [_, _, _, _, _, _, _, _, _, _] rfl [(30, _, some 8), (27, _, some 5)] rfl rfl ⟨⟨rfl, rfl, rfl⟩, ⟨rfl, rfl, rfl⟩, trivial⟩ (fun ext => TL.offU hF rfl rfl rfl rfl TL.fin) ?_
    refine DR.stepV [_, _, _, _, _, _, _, _, _, _, _] rfl [(0, _, none), (27, _, some 5)] rfl rfl ⟨⟨rfl, by kernel_rfl⟩, ⟨rfl, rfl, rfl⟩, trivial⟩ (fun ext => TL.offU hF rfl rfl rfl rfl TL.fin) ?_
    refine DR.stepV [_, _, _, _, _, _, _, _, _, _, _, _] rfl [(4, _, none), (27, _, some 5)] rfl rfl ⟨⟨rfl, by kernel_rfl⟩, ⟨rfl, rfl, rfl⟩, trivial⟩ (fun ext => TL.offU hF rfl rfl rfl rfl TL.fin) ?_
    refine DR.stepV [_, _, _, _, _, _, _, _, _, _, _, _, _] rfl [(32, _, some 10), (33, _, some 11), (27, _, some 5)] rfl rfl ⟨⟨rfl, rfl, rfl⟩, ⟨rfl, rfl, rfl⟩, ⟨rfl, rfl, rfl⟩, trivial⟩ (fun ext => TL.offU hF rfl rfl rfl rfl TL.fin) ?_
    refine DR.stepV [_, _, _, _, _, _, _, _, _, _, _, _, _, _] rfl [(34, _, some 12), (27, _, some 5)] rfl rfl ⟨⟨rfl, rfl, rfl⟩, ⟨rfl, rfl, rfl⟩, trivial⟩ (fun ext => TL.offU hF rfl rfl rfl rfl TL.fin) ?_
    refine DR.done [(35, _), (34, _), (33, _), (32, _), (31, _), (30, _), (29, _), (28, _), (27, _), (26, _), (25, _), (24, _), (23, _), (22, _)] [_, _, _, _, _] mixed (by kernel_rfl) (by kernel_rfl) (by kernel_rfl) rfl rfl ?_
    refine TL.offU hF rfl rfl rfl rfl ?_
    refine TL.offU hF rfl rfl rfl rfl ?_
    refine TL.off hF rfl rfl rfl rfl rfl ?_
    refine TL.pickF hF rfl rfl rfl rfl ?_
    refine TL.assign hF rfl rfl ?_
    refine TL.nil ?_
    refine TQ.block_n ?_
    refine TQ.then_n ?_
    refine T.region ?_
    refine TL.move hF rfl rfl ?_
    refine TL.add hF rfl rfl (by omega) (by omega) rfl ?_
    refine TL.assign hF rfl rfl ?_
    refine TL.nil ?_
    refine TQ.round (j + 1, false) ⟨by dsimp only; omega, ?_⟩ (by dsimp only; omega) ⟨rfl, rfl, rfl, rfl, rfl, trivial⟩ rfl
    refine ⟨fun h => (by cases h), fun h => his.2 fun k h1 h2 => h k h1 (by dsimp only; omega)⟩
  ·refine T.exit ?_
   refine TQ.then_x ?_
   refine TQ.then_x ?_
   refine TQ.block_x ?_
   refine TQ.then_n ?_
   refine T.seq ?_
   refine T.region ?_
   refine TL.move hF rfl rfl ?_
   refine TL.nil ?_
   refine TQ.then_n ?_
   refine T.cond _ rfl (fun ht40 => ?_) (fun ht40 => ?_)
   ·refine T.region ?_
    refine TL.move hF rfl rfl ?_
    refine TL.move hF rfl rfl ?_
    refine TL.move hF rfl rfl ?_
    refine TL.indexAddr hF rfl rfl (hq1.ad hiq) (by omega) (by omega) rfl ?_
    refine TL.load hF rfl (hq1.ro.at hiq) rfl ?_
    refine TL.buildSlice hF rfl (cs := #[hc qs[i]]) (e := 22) (fun w => by kernel_rfl) rfl (fun b46 => ?_)
    refine TL.append hF 1 rfl rfl rfl ho (row_own (cs := [hc qs[i]]) (e := 22) (by simp)).src rfl rfl (by simp [hc, Value.oneCell']) (by omega) (by omega) rfl (fun a' cap' seg' ho' => ?_)
    have hpr : prT tle (tx qs) qs[i].2.1 = true := by
     rw [← tx_get hiq]
     refine (prT_at hnd (by rw [tx_len]; exact hiq)).2 fun k h => ?_
     rw [tx_len] at h
     rw [tx_get h, tx_get hiq]; exact his.1 ht40 k h (by omega)
    have e1 := filt_succ (q := (fun p : HL => prT tle (tx qs) p.2.1)) hiq
    rw [if_pos hpr] at e1
    have e2 : ((qs.take i).filter (fun p : HL => prT tle (tx qs) p.2.1)).length + 1 = ((qs.take (i + 1)).filter (fun p : HL => prT tle (tx qs) p.2.1)).length := by rw [e1]; simp
    have e3 : ((qs.take i).filter (fun p : HL => prT tle (tx qs) p.2.1)).map hc ++ [hc qs[i]] = ((qs.take (i + 1)).filter (fun p : HL => prT tle (tx qs) p.2.1)).map hc := by rw [e1]; simp
    rw [e2, e3] at ho'
    rw [e2]
    refine TL.assign hF rfl rfl ?_
    refine TL.nil ?_
    refine TQ.block_n ?_
    refine TQ.then_n ?_
    refine T.region ?_
    refine TL.move hF rfl rfl ?_
    refine TL.add hF rfl rfl (by omega) (by omega) rfl ?_
    refine TL.assign hF rfl rfl ?_
    refine TL.nil ?_
    refine TQ.pop ?_
    refine TQ.round (i + 1, a', cap', seg') ⟨by dsimp only; omega, ho'⟩ (by dsimp only; omega) ⟨rfl, rfl, rfl, trivial⟩ rfl
   ·refine T.skip ?_
    refine TQ.block_n ?_
    refine TQ.then_n ?_
    refine T.region ?_
    refine TL.move hF rfl rfl ?_
    refine TL.add hF rfl rfl (by omega) (by omega) rfl ?_
    refine TL.assign hF rfl rfl ?_
    refine TL.nil ?_
    have hpr : ¬ prT tle (tx qs) qs[i].2.1 = true := fun hp => by
     rw [← tx_get hiq] at hp
     have h1 := (prT_at hnd (by rw [tx_len]; exact hiq)).1 hp
     have h2 := his.2 fun k h _ => by
      have h3 := h1 k (by rw [tx_len]; exact h)
      rw [tx_get h, tx_get hiq] at h3; exact h3
     rw [h2] at ht40; cases ht40
    have e1 := filt_succ (q := (fun p : HL => prT tle (tx qs) p.2.1)) hiq
    rw [if_neg hpr, List.append_nil] at e1
    refine TQ.round (i + 1, oa, oc, og) ⟨by dsimp only; omega, by dsimp only; rw [e1]; exact ho⟩ (by dsimp only; omega) ⟨rfl, congrArg (fun l : List HL => some (Value.slice oa l.length oc)) e1.symm, rfl, trivial⟩ rfl
 ·refine T.exit ?_
  refine TQ.then_x ?_
  refine TQ.then_x ?_
  refine TQ.block_x ?_
  refine TQ.then_n ?_
  refine T.seq ?_
  refine T.region ?_
  refine TL.move hF rfl rfl ?_
  refine TL.assign hF rfl rfl ?_
  refine TL.nil ?_
  refine TQ.then_n ?_
  refine T.ret ?_
  refine TQ.thaw hz ?_
  have e : qs.take i = qs := List.take_of_length_le (by omega)
  rw [e] at ho
  refine TQ.hperm (og :: (segs ++ η)) List.perm_middle.symm ?_
  refine TQ.rets [2] _ rfl rfl rfl ?_
  refine ⟨oa, oc, qs.filter (fun p : HL => prT tle (tx qs) p.2.1), og :: segs, by show Value.slice oa ((qs.take i).filter (fun p : HL => prT tle (tx qs) p.2.1)).length oc = _; rw [e], ?_, rfl, ⟨ho.row List.mem_cons_self, fun p hp => (hll.item p (List.mem_filter.1 hp).1).up upc⟩, osl_cap ho⟩
  rw [outT_prT, ← htq]
  unfold tx
  rw [List.filter_map]; rfl
set_option maxHeartbeats 2000000 in
theorem Latest_fn {a : Option Addr} {ps : List HL} {c : Nat} (hx : LL S w0 η a ps) (hl : ps.length < 1073741824) (hlx : ∀ p ∈ ps, p.2.1.length < 1099511627776) {w : Nat} (hw : ∀ p ∈ ps, p.2.1.length = w) :
  Rt Tryz.prog 99 [.slice a ps.length c].toArray S w0 η (fun v η' => ∃ a' cap qs segs, v = .slice a' qs.length cap ∧ tx qs = outT (fun o t => tle t o) (tx ps) ∧ η' = segs ++ η ∧ LL S w0 segs a' qs ∧ qs.length ≤ cap) := by
 have hF := open_wide
 refine Rt.of (fn := Tryz.f99) Tryz.func99 rfl rfl ?_
 refine T.seq ?_
 refine T.region ?_
 refine TL.assign hF rfl rfl ?_
 refine TL.nil ?_
 refine TQ.then_n ?_
 refine T.seq ?_
 refine T.region ?_
 refine TL.move hF rfl rfl ?_
 refine TL.call hF (Sorted_fn hx hl hlx hw) rfl rfl ?_
 rintro _ _ ⟨a2, c2, qs, segs, rfl, htq, rfl, hll, _⟩
 have hwt : Wid w (tx ps) := fun x hx => by obtain ⟨p, hp, rfl⟩ := List.mem_map.1 hx; exact hw p hp
 have hwq : ∀ p ∈ qs, p.2.1.length = w := fun p hp => hwt _ (mem_sortT.1 (htq ▸ List.mem_map_of_mem hp))
 have hql : qs.length ≤ ps.length := by have := sortT_len (tx ps); rw [← htq, tx_len, tx_len] at this; exact this
 have hnd : (tx qs).Nodup := by rw [htq]; exact (ord_sortT hwt).nodup
 have hwl : qs.length ≠ 0 → w < 1099511627776 := fun h => by
  have h1 : (tx qs) ≠ [] := fun e => by have := congrArg List.length e; rw [tx_len] at this; exact h this
  cases hqs : tx qs with
  | nil => exact absurd hqs h1
  | cons t r =>
   have h2 : t ∈ tx ps := by rw [← mem_sortT, ← htq, hqs]; exact List.mem_cons_self
   obtain ⟨p, hp, rfl⟩ := List.mem_map.1 h2
   rw [← hw p hp]; exact hlx p hp
 refine TL.freeze segs rfl (fun S1 w1 hz => ?_)
 have hq1 := hll.frz hz
 refine TL.assign hF rfl rfl ?_
 refine TL.nil ?_
 refine TQ.then_n ?_
 refine T.seq ?_
 refine T.region ?_
 refine TL.buildSlice hF rfl (cs := #[]) (e := 22) (fun w => by kernel_rfl) rfl (fun b9 => ?_)
 refine TL.assign hF rfl rfl ?_
 refine TL.nil ?_
 refine TQ.then_n ?_
 refine T.seq ?_
 refine T.seq ?_
 refine T.region ?_
 refine TL.assign hF rfl rfl ?_
 refine TL.nil ?_
 refine TQ.then_n ?_
 refine T.block ?_
 refine T.loop (ι := Nat × Option Addr × Nat × Seg) (fun i => i.1 ≤ qs.length ∧ OSl 22 1 (.slice i.2.1 ((qs.take i.1).filter (fun p : HL => prT (fun o t => tle t o) (tx qs) p.2.1)).length i.2.2.1) ((qs.take i.1).filter (fun p : HL => prT (fun o t => tle t o) (tx qs) p.2.1)).length (((qs.take i.1).filter (fun p : HL => prT (fun o t => tle t o) (tx qs) p.2.1)).map hc) i.2.2.2) (fun i => [(0, .slice a2 qs.length c2), (3, .slice i.2.1 ((qs.take i.1).filter (fun p : HL => prT (fun o t => tle t o) (tx qs) p.2.1)).length i.2.2.1), (4, .int .i64 (i.1 : Int))]) (fun i => i.2.2.2 :: η) (fun i => qs.length - i.1) (0, some ⟨b9, 0, none⟩, 0, _) ⟨Nat.zero_le _, osl_empty⟩ ⟨rfl, rfl, rfl, trivial⟩ rfl ?_
 rintro ⟨i, oa, oc, og⟩ ⟨hi, ho⟩
 dsimp only at hi ho
 refine T.seq ?_
 refine T.seq ?_
 refine T.region ?_
 refine TL.move hF rfl rfl ?_
 refine TL.move hF rfl rfl ?_
 refine TL.len hF rfl rfl ?_
 refine TL.bin hF rfl rfl rfl rfl ?_
 refine TL.nil ?_
 refine TQ.then_n ?_
 first | refine T.cond_d rfl (fun ht13 => ?_) (fun ht13 => ?_) | refine T.cond _ rfl (fun ht13 => ?_) (fun ht13 => ?_)
 ·refine T.skip ?_
  refine TQ.then_n ?_
  refine T.seq ?_
  refine T.block ?_
  refine T.seq ?_
  refine T.region ?_
  refine TL.assign hF rfl rfl ?_
  refine TL.nil ?_
  refine TQ.then_n ?_
  refine T.seq ?_
  refine T.seq ?_
  refine T.region ?_
  refine TL.assign hF rfl rfl ?_
  refine TL.nil ?_
  refine TQ.then_n ?_
  refine T.block ?_
  have hiq : i < qs.length := by omega
  have hwl2 := hwl (by omega)
  have hfl : ((qs.take i).filter (fun p : HL => prT (fun o t => tle t o) (tx qs) p.2.1)).length ≤ i := Nat.le_trans (List.length_filter_le _ _) (by rw [List.length_take]; omega)
  refine T.loop (ι := Nat × Bool) (fun j => j.1 ≤ qs.length ∧ (j.2 = true ↔ ∀ k (h : k < qs.length), k < j.1 → k = i ∨ (fun o t => tle t o) qs[k].2.1 qs[i].2.1 = false)) (fun j => [(0, .slice a2 qs.length c2), (3, .slice oa ((qs.take i).filter (fun p : HL => prT (fun o t => tle t o) (tx qs) p.2.1)).length oc), (4, .int .i64 (i : Int)), (5, .bool j.2), (6, .int .i64 (j.1 : Int))]) (fun _ => og :: η) (fun j => qs.length - j.1) (0, true) ⟨Nat.zero_le _, by simp⟩ ⟨rfl, rfl, rfl, rfl, rfl, trivial⟩ rfl ?_
  rintro ⟨j, is⟩ ⟨hj, his⟩
  dsimp only at hj his
  refine T.seq ?_
  refine T.seq ?_
  refine T.region ?_
  refine TL.move hF rfl rfl ?_
  refine TL.move hF rfl rfl ?_
  refine TL.len hF rfl rfl ?_
  refine TL.bin hF rfl rfl rfl rfl ?_
  refine TL.nil ?_
  refine TQ.then_n ?_
  first | refine T.cond_d rfl (fun ht19 => ?_) (fun ht19 => ?_) | refine T.cond _ rfl (fun ht19 => ?_) (fun ht19 => ?_)
  ·refine T.skip ?_
   refine TQ.then_n ?_
   refine T.seq ?_
   refine T.block ?_
   have hjq : j < qs.length := by omega
   rcases is with _ | _
   rotate_left
   by_cases hji : (j : Int) = (i : Int)
   ·refine T.draw ?_
    refine DR.stepV [_] rfl [(5, _, none)] rfl rfl ⟨⟨rfl, by kernel_rfl⟩, trivial⟩ (fun ext => TL.move hF rfl rfl TL.fin) ?_
    refine DR.stepV [_, _] rfl [(22, _, some 0)] rfl rfl ⟨⟨rfl, rfl, rfl⟩, trivial⟩ (fun ext => TL.move hF rfl rfl TL.fin) ?_
    refine DR.stepV [_, _, _] rfl [(6, _, none), (23, _, some 1)] rfl rfl ⟨⟨rfl, by kernel_rfl⟩, ⟨rfl, rfl, rfl⟩, trivial⟩ (fun ext => TL.on rfl rfl rfl rfl <| TL.move hF rfl rfl TL.fin) ?_
    refine DR.stepV [_, _, _, _] rfl [(4, _, none), (23, _, some 1)] rfl rfl ⟨⟨rfl, by kernel_rfl⟩, ⟨rfl, rfl, rfl⟩, trivial⟩ (fun ext => TL.on rfl rfl rfl rfl <| TL.move hF rfl rfl TL.fin) ?_
    refine DR.stepV [_, _, _, _, _] rfl [(24, _, some 2), (25, _, some 3), (23, _, some 1)] rfl rfl ⟨⟨rfl, rfl, rfl⟩, ⟨rfl, rfl, rfl⟩, ⟨rfl, rfl, rfl⟩, trivial⟩ (fun ext => TL.on rfl rfl rfl rfl <| TL.bin hF rfl rfl rfl rfl TL.fin) ?_
    refine DR.stepV [_, _, _, _, _, _] rfl [(26, _, some 4), (23, _, some 1)] rfl rfl ⟨⟨rfl, rfl, rfl⟩, ⟨rfl, rfl, rfl⟩, trivial⟩ (fun ext => TL.on rfl rfl rfl rfl <| TL.move hF rfl rfl TL.fin) ?_
    refine DR.stepV [_, _, _, _, _, _, _] rfl [(0, _, none), (27, _, some 5)] rfl rfl ⟨⟨rfl, by kernel_rfl⟩, ⟨rfl, rfl, rfl⟩, trivial⟩ (fun ext => TL.off hF rfl rfl rfl (decide_eq_true hji) rfl TL.fin) ?_
    refine DR.stepV [_, _, _, _, _, _, _, _] rfl [(4, _, none), (27, _, some 5)] rfl rfl ⟨⟨rfl, by kernel_rfl⟩, ⟨rfl, rfl, rfl⟩, trivial⟩ (fun ext => TL.off hF rfl rfl rfl (decide_eq_true hji) rfl TL.fin) ?_
    refine DR.stepV [_, _, _, _, _, _, _, _, _] rfl [(28, _, some 6), (29, _, some 7), (27, _, some 5)] rfl rfl ⟨⟨rfl, rfl, rfl⟩, ⟨rfl, rfl, rfl⟩, ⟨rfl, rfl, rfl⟩, trivial⟩ (fun ext => TL.off hF rfl rfl rfl (decide_eq_true hji) rfl TL.fin) ?_
    refine DR.stepV [_, _, _, _, _, _, _, _, _, _] rfl [(30, _, some 8), (27, _, some 5)] rfl rfl ⟨⟨rfl, rfl, rfl⟩, ⟨rfl, rfl, rfl⟩, trivial⟩ (fun ext => TL.off hF rfl rfl rfl (decide_eq_true hji) rfl TL.fin) ?_
    refine DR.stepV [_, _, _, _, _, _, _, _, _, _, _] rfl [(0, _, none), (27, _, some 5)] rfl rfl ⟨⟨rfl, by kernel_rfl⟩, ⟨rfl, rfl, rfl⟩, trivial⟩ (fun ext => TL.off hF rfl rfl rfl (decide_eq_true hji) rfl TL.fin) ?_
    refine DR.stepV [_, _, _, _, _, _, _, _, _, _, _, _] rfl [(6, _, none), (27, _, some 5)] rfl rfl ⟨⟨rfl, by kernel_rfl⟩, ⟨rfl, rfl, rfl⟩, trivial⟩ (fun ext => TL.off hF rfl rfl rfl (decide_eq_true hji) rfl TL.fin) ?_
    refine DR.stepV [_, _, _, _, _, _, _, _, _, _, _, _, _] rfl [(32, _, some 10), (33, _, some 11), (27, _, some 5)] rfl rfl ⟨⟨rfl, rfl, rfl⟩, ⟨rfl, rfl, rfl⟩, ⟨rfl, rfl, rfl⟩, trivial⟩ (fun ext => TL.off hF rfl rfl rfl (decide_eq_true hji) rfl TL.fin) ?_
    refine DR.stepV [_, _, _, _, _, _, _, _, _, _, _, _, _, _] rfl [(34, _, some 12), (27, _, some 5)] rfl rfl ⟨⟨rfl, rfl, rfl⟩, ⟨rfl, rfl, rfl⟩, trivial⟩ (fun ext => TL.off hF rfl rfl rfl (decide_eq_true hji) rfl TL.fin) ?_
    refine DR.done [(35, _), (34, _), (33, _), (32, _), (31, _), (30, _), (29, _), (28, _), (27, _), (26, _), (25, _), (24, _), (23, _), (22, _)] [_, _, _, _, _] mixed (by kernel_rfl) (by kernel_rfl) (by kernel_rfl) rfl rfl ?_
    refine TL.off hF rfl rfl rfl (decide_eq_true hji) rfl ?_
    refine TL.off hF rfl rfl rfl (decide_eq_true hji) rfl ?_
    refine TL.on rfl rfl rfl rfl ?_
    refine TL.pickT hF rfl (decide_eq_true hji) rfl rfl ?_
    refine TL.pickT hF rfl rfl rfl rfl ?_
    refine TL.assign hF rfl rfl ?_
    refine TL.nil ?_
    refine TQ.block_n ?_
    refine TQ.then_n ?_
    refine T.region ?_
    refine TL.move hF rfl rfl ?_
    refine TL.add hF rfl rfl (by omega) (by omega) rfl ?_
    refine TL.assign hF rfl rfl ?_
    refine TL.nil ?_
    refine TQ.round (j + 1, true) ⟨by dsimp only; omega, ?_⟩ (by dsimp only; omega) ⟨rfl, rfl, rfl, rfl, rfl, trivial⟩ rfl
    refine ⟨fun _ k h1 h2 => ?_, fun _ => rfl⟩
    by_cases e : k = j
    ·left; omega
    ·exact his.1 rfl k h1 (by dsimp only at h2; omega)
   ·refine T.draw ?_
    refine DR.stepV [_] rfl [(5, _, none)] rfl rfl ⟨⟨rfl, by kernel_rfl⟩, trivial⟩ (fun ext => TL.move hF rfl rfl TL.fin) ?_
    refine DR.stepV [_, _] rfl [(22, _, some 0)] rfl rfl ⟨⟨rfl, rfl, rfl⟩, trivial⟩ (fun ext => TL.move hF rfl rfl TL.fin) ?_
    refine DR.stepV [_, _, _] rfl [(6, _, none), (23, _, some 1)] rfl rfl ⟨⟨rfl, by kernel_rfl⟩, ⟨rfl, rfl, rfl⟩, trivial⟩ (fun ext => TL.on rfl rfl rfl rfl <| TL.move hF rfl rfl TL.fin) ?_
    refine DR.stepV [_, _, _, _] rfl [(4, _, none), (23, _, some 1)] rfl rfl ⟨⟨rfl, by kernel_rfl⟩, ⟨rfl, rfl, rfl⟩, trivial⟩ (fun ext => TL.on rfl rfl rfl rfl <| TL.move hF rfl rfl TL.fin) ?_
    refine DR.stepV [_, _, _, _, _] rfl [(24, _, some 2), (25, _, some 3), (23, _, some 1)] rfl rfl ⟨⟨rfl, rfl, rfl⟩, ⟨rfl, rfl, rfl⟩, ⟨rfl, rfl, rfl⟩, trivial⟩ (fun ext => TL.on rfl rfl rfl rfl <| TL.bin hF rfl rfl rfl rfl TL.fin) ?_
    refine DR.stepV [_, _, _, _, _, _] rfl [(26, _, some 4), (23, _, some 1)] rfl rfl ⟨⟨rfl, rfl, rfl⟩, ⟨rfl, rfl, rfl⟩, trivial⟩ (fun ext => TL.on rfl rfl rfl rfl <| TL.move hF rfl rfl TL.fin) ?_
    refine DR.stepV [_, _, _, _, _, _, _] rfl [(0, _, none), (27, _, some 5)] rfl rfl ⟨⟨rfl, by kernel_rfl⟩, ⟨rfl, rfl, rfl⟩, trivial⟩ (fun ext => TL.on rfl rfl rfl (decide_eq_false hji) <| TL.move hF rfl rfl TL.fin) ?_
    refine DR.stepV [_, _, _, _, _, _, _, _] rfl [(4, _, none), (27, _, some 5)] rfl rfl ⟨⟨rfl, by kernel_rfl⟩, ⟨rfl, rfl, rfl⟩, trivial⟩ (fun ext => TL.on rfl rfl rfl (decide_eq_false hji) <| TL.move hF rfl rfl TL.fin) ?_
    refine DR.stepV [_, _, _, _, _, _, _, _, _] rfl [(28, _, some 6), (29, _, some 7), (27, _, some 5)] rfl rfl ⟨⟨rfl, rfl, rfl⟩, ⟨rfl, rfl, rfl⟩, ⟨rfl, rfl, rfl⟩, trivial⟩ (fun ext => TL.on rfl rfl rfl (decide_eq_false hji) <| TL.indexAddr hF rfl rfl (hq1.ad (i := i) (by omega)) (by omega) (by omega) rfl TL.fin) ?_
    refine DR.stepV [_, _, _, _, _, _, _, _, _, _] rfl [(30, _, some 8), (27, _, some 5)] rfl rfl ⟨⟨rfl, rfl, rfl⟩, ⟨rfl, rfl, rfl⟩, trivial⟩ (fun ext => TL.on rfl rfl rfl (decide_eq_false hji) <| TL.load hF rfl (hq1.ro.at (i := i) (by omega)) rfl TL.fin) ?_
    refine DR.stepV [_, _, _, _, _, _, _, _, _, _, _] rfl [(0, _, none), (27, _, some 5)] rfl rfl ⟨⟨rfl, by kernel_rfl⟩, ⟨rfl, rfl, rfl⟩, trivial⟩ (fun ext => TL.on rfl rfl rfl (decide_eq_false hji) <| TL.move hF rfl rfl TL.fin) ?_
    refine DR.stepV [_, _, _, _, _, _, _, _, _, _, _, _] rfl [(6, _, none), (27, _, some 5)] rfl rfl ⟨⟨rfl, by kernel_rfl⟩, ⟨rfl, rfl, rfl⟩, trivial⟩ (fun ext => TL.on rfl rfl rfl (decide_eq_false hji) <| TL.move hF rfl rfl TL.fin) ?_
    refine DR.stepV [_, _, _, _, _, _, _, _, _, _, _, _, _] rfl [(32, _, some 10), (33, _, some 11), (27, _, some 5)] rfl rfl ⟨⟨rfl, rfl, rfl⟩, ⟨rfl, rfl, rfl⟩, ⟨rfl, rfl, rfl⟩, trivial⟩ (fun ext => TL.on rfl rfl rfl (decide_eq_false hji) <| TL.indexAddr hF rfl rfl (hq1.ad (i := j) (by omega)) (by omega) (by omega) rfl TL.fin) ?_
    refine DR.stepV [_, _, _, _, _, _, _, _, _, _, _, _, _, _] rfl [(34, _, some 12), (27, _, some 5)] rfl rfl ⟨⟨rfl, rfl, rfl⟩, ⟨rfl, rfl, rfl⟩, trivial⟩ (fun ext => TL.on rfl rfl rfl (decide_eq_false hji) <| TL.load hF rfl (hq1.ro.at (i := j) (by omega)) rfl TL.fin) ?_
    refine DR.done [(35, _), (34, _), (33, _), (32, _), (31, _), (30, _), (29, _), (28, _), (27, _), (26, _), (25, _), (24, _), (23, _), (22, _)] [_, _, _, _, _] mixed (by kernel_rfl) (by kernel_rfl) (by kernel_rfl) rfl rfl ?_
    refine TL.on rfl rfl rfl (decide_eq_false hji) ?_
    refine TL.callV hF (AtOrBefore_fn (hq1.ro.it (i := i) (by omega)) (hq1.ro.it (i := j) (by omega)) ((hwq _ (List.getElem_mem _)).trans (hwq _ (List.getElem_mem _)).symm) (by rw [hwq _ (List.getElem_mem _)]; omega)) rfl rfl ?_
    refine TL.on rfl rfl rfl (decide_eq_false hji) ?_
    refine TL.not hF rfl rfl ?_
    refine TL.on rfl rfl rfl rfl ?_
    refine TL.pickF hF rfl (decide_eq_false hji) rfl rfl ?_
    refine TL.pickT hF rfl rfl rfl rfl ?_
    refine TL.assign hF rfl rfl ?_
    refine TL.nil ?_
    refine TQ.block_n ?_
    refine TQ.then_n ?_
    refine T.region ?_
    refine TL.move hF rfl rfl ?_
    refine TL.add hF rfl rfl (by omega) (by omega) rfl ?_
    refine TL.assign hF rfl rfl ?_
    refine TL.nil ?_
    refine TQ.round (j + 1, !((fun o t => tle t o) qs[j].2.1 qs[i].2.1)) ⟨by dsimp only; omega, ?_⟩ (by dsimp only; omega) ⟨rfl, rfl, rfl, rfl, rfl, trivial⟩ rfl
    dsimp only
    constructor
    ·intro h k h1 h2
     by_cases e : k = j
     ·subst e; right; simpa using h
     ·exact his.1 rfl k h1 (by omega)
    ·intro h
     rcases h j hjq (by omega) with e | e
     ·omega
     ·simp [e]
   ·refine T.draw ?_
    refine DR.stepV [_] rfl [(5, _, none)] rfl rfl ⟨⟨rfl, by kernel_rfl⟩, trivial⟩ (fun ext => TL.move hF rfl rfl TL.fin) ?_
    refine DR.stepV [_, _] rfl [(22, _, some 0)] rfl rfl ⟨⟨rfl, rfl, rfl⟩, trivial⟩ (fun ext => TL.move hF rfl rfl TL.fin) ?_
    refine DR.stepV [_, _, _] rfl [(6, _, none), (23, _, some 1)] rfl rfl ⟨⟨rfl, by kernel_rfl⟩, ⟨rfl, rfl, rfl⟩, trivial⟩ (fun ext => TL.off hF rfl rfl rfl rfl rfl TL.fin) ?_
    refine DR.stepV [_, _, _, _] rfl [(4, _, none), (23, _, some 1)] rfl rfl ⟨⟨rfl, by kernel_rfl⟩, ⟨rfl, rfl, rfl⟩, trivial⟩ (fun ext => TL.off hF rfl rfl rfl rfl rfl TL.fin) ?_
    refine DR.stepV [_, _, _, _, _] rfl [(24, _, some 2), (25, _, some 3), (23, _, some 1)] rfl rfl ⟨⟨rfl, rfl, rfl⟩, ⟨rfl, rfl, rfl⟩, ⟨rfl, rfl, rfl⟩, trivial⟩ (fun ext => TL.off hF rfl rfl rfl rfl rfl TL.fin) ?_
    refine DR.stepV [_, _, _, _, _, _] rfl [(26, _, some 4), (23, _, some 1)] rfl rfl ⟨⟨rfl, rfl, rfl⟩, ⟨rfl, rfl, rfl⟩, trivial⟩ (fun ext => TL.off hF rfl rfl rfl rfl rfl TL.fin) ?_
    refine DR.stepV [_, _, _, _, _, _, _] rfl [(0, _, none), (27, _, some 5)] rfl rfl ⟨⟨rfl, by kernel_rfl⟩, ⟨rfl, rfl, rfl⟩, trivial⟩ (fun ext => TL.offU hF rfl rfl rfl rfl TL.fin) ?_
    refine DR.stepV [_, _, _, _, _, _, _, _] rfl [(4, _, none), (27, _, some 5)] rfl rfl ⟨⟨rfl, by kernel_rfl⟩, ⟨rfl, rfl, rfl⟩, trivial⟩ (fun ext => TL.offU hF rfl rfl rfl rfl TL.fin) ?_
    refine DR.stepV [_, _, _, _, _, _, _, _, _] rfl [(28, _, some 6), (29, _, some 7), (27, _, some 5)] rfl rfl ⟨⟨rfl, rfl, rfl⟩, ⟨rfl, rfl, rfl⟩, ⟨rfl, rfl, rfl⟩, trivial⟩ (fun ext => TL.offU hF rfl rfl rfl rfl TL.fin) ?_
    refine DR.stepV [_, _, _, _, _, _, _, _, _, _] rfl [(30, _, some 8), (27, _, some 5)] rfl rfl ⟨⟨rfl, rfl, rfl⟩, ⟨rfl, rfl, rfl⟩, trivial⟩ (fun ext => TL.offU hF rfl rfl rfl rfl TL.fin) ?_
    refine DR.stepV [_, _, _, _, _, _, _, _, _, _, _] rfl [(0, _, none), (27, _, some 5)] rfl rfl ⟨⟨rfl, by kernel_rfl⟩, ⟨rfl, rfl, rfl⟩, trivial⟩ (fun ext => TL.offU hF rfl rfl rfl rfl TL.fin) ?_
    refine DR.stepV [_, _, _, _, _, _, _, _, _, _, _, _] rfl [(6, _, none), (27, _, some 5)] rfl rfl ⟨⟨rfl, by kernel_rfl⟩, ⟨rfl, rfl, rfl⟩, trivial⟩ (fun ext => TL.offU hF rfl rfl rfl rfl TL.fin) ?_
    refine DR.stepV [_, _, _, _, _, _, _, _, _, _, _, _, _] rfl [(32, _, some 10), (33, _, some 11), (27, _, some 5)] rfl rfl ⟨⟨rfl, rfl, rfl⟩, ⟨rfl, rfl, rfl⟩, ⟨rfl, rfl, rfl⟩, trivial⟩ (fun ext => TL.offU hF rfl rfl rfl rfl TL.fin) ?_
    refine DR.stepV [_, _, _, _, _, _, _, _, _, _, _, _, _, _] rfl [(34, _, some 12), (27, _, some 5)] rfl rfl ⟨⟨rfl, rfl, rfl⟩, ⟨rfl, rfl, rfl⟩, trivial⟩ (fun ext => TL.offU hF rfl rfl rfl rfl TL.fin) ?_
    refine DR.done [(35, _), (34, _), (33, _), (32, _), (31, _), (30, _), (29, _), (28, _), (27, _), (26, _), (25, _), (24, _), (23, _), (22, _)] [_, _, _, _, _] mixed (by kernel_rfl) (by kernel_rfl) (by kernel_rfl) rfl rfl ?_
    refine TL.offU hF rfl rfl rfl rfl ?_
    refine TL.offU hF rfl rfl rfl rfl ?_
    refine TL.off hF rfl rfl rfl rfl rfl ?_
    refine TL.pickF hF rfl rfl rfl rfl ?_
    refine TL.assign hF rfl rfl ?_
    refine TL.nil ?_
    refine TQ.block_n ?_
    refine TQ.then_n ?_
    refine T.region ?_
    refine TL.move hF rfl rfl ?_
    refine TL.add hF rfl rfl (by omega) (by omega) rfl ?_
    refine TL.assign hF rfl rfl ?_
    refine TL.nil ?_
    refine TQ.round (j + 1, false) ⟨by dsimp only; omega, ?_⟩ (by dsimp only; omega) ⟨rfl, rfl, rfl, rfl, rfl, trivial⟩ rfl
    refine ⟨fun h => (by cases h), fun h => his.2 fun k h1 h2 => h k h1 (by dsimp only; omega)⟩
  ·refine T.exit ?_
   refine TQ.then_x ?_
   refine TQ.then_x ?_
   refine TQ.block_x ?_
   refine TQ.then_n ?_
   refine T.seq ?_
   refine T.region ?_
   refine TL.move hF rfl rfl ?_
   refine TL.nil ?_
   refine TQ.then_n ?_
   refine T.cond _ rfl (fun ht40 => ?_) (fun ht40 => ?_)
   ·refine T.region ?_
    refine TL.move hF rfl rfl ?_
    refine TL.move hF rfl rfl ?_
    refine TL.move hF rfl rfl ?_
    refine TL.indexAddr hF rfl rfl (hq1.ad hiq) (by omega) (by omega) rfl ?_
    refine TL.load hF rfl (hq1.ro.at hiq) rfl ?_
    refine TL.buildSlice hF rfl (cs := #[hc qs[i]]) (e := 22) (fun w => by kernel_rfl) rfl (fun b46 => ?_)
    refine TL.append hF 1 rfl rfl rfl ho (row_own (cs := [hc qs[i]]) (e := 22) (by simp)).src rfl rfl (by simp [hc, Value.oneCell']) (by omega) (by omega) rfl (fun a' cap' seg' ho' => ?_)
    have hpr : prT (fun o t => tle t o) (tx qs) qs[i].2.1 = true := by
     rw [← tx_get hiq]
     refine (prT_at hnd (by rw [tx_len]; exact hiq)).2 fun k h => ?_
     rw [tx_len] at h
     rw [tx_get h, tx_get hiq]; exact his.1 ht40 k h (by omega)
    have e1 := filt_succ (q := (fun p : HL => prT (fun o t => tle t o) (tx qs) p.2.1)) hiq
    rw [if_pos hpr] at e1
    have e2 : ((qs.take i).filter (fun p : HL => prT (fun o t => tle t o) (tx qs) p.2.1)).length + 1 = ((qs.take (i + 1)).filter (fun p : HL => prT (fun o t => tle t o) (tx qs) p.2.1)).length := by rw [e1]; simp
    have e3 : ((qs.take i).filter (fun p : HL => prT (fun o t => tle t o) (tx qs) p.2.1)).map hc ++ [hc qs[i]] = ((qs.take (i + 1)).filter (fun p : HL => prT (fun o t => tle t o) (tx qs) p.2.1)).map hc := by rw [e1]; simp
    rw [e2, e3] at ho'
    rw [e2]
    refine TL.assign hF rfl rfl ?_
    refine TL.nil ?_
    refine TQ.block_n ?_
    refine TQ.then_n ?_
    refine T.region ?_
    refine TL.move hF rfl rfl ?_
    refine TL.add hF rfl rfl (by omega) (by omega) rfl ?_
    refine TL.assign hF rfl rfl ?_
    refine TL.nil ?_
    refine TQ.pop ?_
    refine TQ.round (i + 1, a', cap', seg') ⟨by dsimp only; omega, ho'⟩ (by dsimp only; omega) ⟨rfl, rfl, rfl, trivial⟩ rfl
   ·refine T.skip ?_
    refine TQ.block_n ?_
    refine TQ.then_n ?_
    refine T.region ?_
    refine TL.move hF rfl rfl ?_
    refine TL.add hF rfl rfl (by omega) (by omega) rfl ?_
    refine TL.assign hF rfl rfl ?_
    refine TL.nil ?_
    have hpr : ¬ prT (fun o t => tle t o) (tx qs) qs[i].2.1 = true := fun hp => by
     rw [← tx_get hiq] at hp
     have h1 := (prT_at hnd (by rw [tx_len]; exact hiq)).1 hp
     have h2 := his.2 fun k h _ => by
      have h3 := h1 k (by rw [tx_len]; exact h)
      rw [tx_get h, tx_get hiq] at h3; exact h3
     rw [h2] at ht40; cases ht40
    have e1 := filt_succ (q := (fun p : HL => prT (fun o t => tle t o) (tx qs) p.2.1)) hiq
    rw [if_neg hpr, List.append_nil] at e1
    refine TQ.round (i + 1, oa, oc, og) ⟨by dsimp only; omega, by dsimp only; rw [e1]; exact ho⟩ (by dsimp only; omega) ⟨rfl, congrArg (fun l : List HL => some (Value.slice oa l.length oc)) e1.symm, rfl, trivial⟩ rfl
 ·refine T.exit ?_
  refine TQ.then_x ?_
  refine TQ.then_x ?_
  refine TQ.block_x ?_
  refine TQ.then_n ?_
  refine T.seq ?_
  refine T.region ?_
  refine TL.move hF rfl rfl ?_
  refine TL.assign hF rfl rfl ?_
  refine TL.nil ?_
  refine TQ.then_n ?_
  refine T.ret ?_
  refine TQ.thaw hz ?_
  have e : qs.take i = qs := List.take_of_length_le (by omega)
  rw [e] at ho
  refine TQ.hperm (og :: (segs ++ η)) List.perm_middle.symm ?_
  refine TQ.rets [2] _ rfl rfl rfl ?_
  refine ⟨oa, oc, qs.filter (fun p : HL => prT (fun o t => tle t o) (tx qs) p.2.1), og :: segs, by show Value.slice oa ((qs.take i).filter (fun p : HL => prT (fun o t => tle t o) (tx qs) p.2.1)).length oc = _; rw [e], ?_, rfl, ⟨ho.row List.mem_cons_self, fun p hp => (hll.item p (List.mem_filter.1 hp).1).up upc⟩, osl_cap ho⟩
  rw [outT_prT, ← htq]
  unfold tx
  rw [List.filter_map]; rfl
set_option maxHeartbeats 2000000 in
theorem Frontiers_fn {a b e : Option Addr} {ps rs ms : List HL} {c d h : Nat} (hx : LL S w0 η a ps) (hy : LL S w0 η b rs) (hm : LL S w0 η e ms) (hl : ps.length < 2 ^ 63) (hl2 : rs.length < 2 ^ 63) (hl3 : ms.length < 2 ^ 63) (hlx : ∀ p ∈ ps, p.2.1.length < 2 ^ 63) (hly : ∀ p ∈ rs, p.2.1.length < 2 ^ 63) (hlm : ∀ p ∈ ms, p.2.1.length < 2 ^ 63) :
  Rt Tryz.prog 100 [.slice a ps.length c, .slice b rs.length d, .slice e ms.length h].toArray S w0 η (fun v η' => v = .int .i64 (frontE (tx ps) (tx rs) (tx ms)) ∧ η' = η) := by
 have hF := open_wide
 refine Rt.of (fn := Tryz.f100) Tryz.func100 rfl rfl ?_
 refine T.seq ?_
 refine T.region ?_
 refine TL.assign hF rfl rfl ?_
 refine TL.nil ?_
 refine TQ.then_n ?_
 refine T.seq ?_
 refine T.seq ?_
 refine T.region ?_
 refine TL.move hF rfl rfl ?_
 refine TL.len hF rfl rfl ?_
 refine TL.bin hF rfl rfl rfl rfl ?_
 refine TL.move hF rfl rfl ?_
 refine TL.gd (t := 12) rfl (fun g1_12 => ?_) (fun g1_12 => ?_)
 ·refine TL.off hF rfl rfl rfl (decide_eq_true g1_12) rfl ?_
  refine TL.off hF rfl rfl rfl (decide_eq_true g1_12) rfl ?_
  refine TL.off hF rfl rfl rfl (decide_eq_true g1_12) rfl ?_
  refine TL.pickT hF rfl (decide_eq_true g1_12) rfl rfl ?_
  refine TL.move hF rfl rfl ?_
  refine TL.off hF rfl rfl rfl rfl rfl ?_
  refine TL.off hF rfl rfl rfl rfl rfl ?_
  refine TL.off hF rfl rfl rfl rfl rfl ?_
  refine TL.pickT hF rfl rfl rfl rfl ?_
  refine TL.nil ?_
  refine TQ.then_n ?_
  refine T.cond_t rfl rfl ?_
  refine T.seq ?_
  refine T.region ?_
  refine TL.assign hF rfl rfl ?_
  refine TL.nil ?_
  refine TQ.then_n ?_
  refine T.ret ?_
  refine TQ.then_r ?_
  refine TQ.rets [6] _ rfl rfl rfl ?_
  exact ⟨by unfold frontE; rw [if_pos (by rw [tx_len, tx_len, tx_len]; omega)]; rfl, rfl⟩
 ·refine TL.on rfl rfl rfl (decide_eq_false g1_12) ?_
  refine TL.move hF rfl rfl ?_
  refine TL.on rfl rfl rfl (decide_eq_false g1_12) ?_
  refine TL.len hF rfl rfl ?_
  refine TL.on rfl rfl rfl (decide_eq_false g1_12) ?_
  refine TL.bin hF rfl rfl rfl rfl ?_
  refine TL.pickF hF rfl (decide_eq_false g1_12) rfl rfl ?_
  refine TL.move hF rfl rfl ?_
  refine TL.gd (t := 17) rfl (fun g1_17 => ?_) (fun g1_17 => ?_)
  ·refine TL.off hF rfl rfl rfl (decide_eq_true g1_17) rfl ?_
   refine TL.off hF rfl rfl rfl (decide_eq_true g1_17) rfl ?_
   refine TL.off hF rfl rfl rfl (decide_eq_true g1_17) rfl ?_
   refine TL.pickT hF rfl (decide_eq_true g1_17) rfl rfl ?_
   refine TL.nil ?_
   refine TQ.then_n ?_
   refine T.cond_t rfl rfl ?_
   refine T.seq ?_
   refine T.region ?_
   refine TL.assign hF rfl rfl ?_
   refine TL.nil ?_
   refine TQ.then_n ?_
   refine T.ret ?_
   refine TQ.then_r ?_
   refine TQ.rets [6] _ rfl rfl rfl ?_
   exact ⟨by unfold frontE; rw [if_pos (by rw [tx_len, tx_len, tx_len]; omega)]; rfl, rfl⟩
  ·refine TL.on rfl rfl rfl (decide_eq_false g1_17) ?_
   refine TL.move hF rfl rfl ?_
   refine TL.on rfl rfl rfl (decide_eq_false g1_17) ?_
   refine TL.len hF rfl rfl ?_
   refine TL.on rfl rfl rfl (decide_eq_false g1_17) ?_
   refine TL.bin hF rfl rfl rfl rfl ?_
   refine TL.pickF hF rfl (decide_eq_false g1_17) rfl rfl ?_
   refine TL.nil ?_
   refine TQ.then_n ?_
   first | refine T.cond_d rfl (fun ht21 => ?_) (fun ht21 => ?_) | refine T.cond _ rfl (fun ht21 => ?_) (fun ht21 => ?_)
   ·refine T.seq ?_
    refine T.region ?_
    refine TL.assign hF rfl rfl ?_
    refine TL.nil ?_
    refine TQ.then_n ?_
    refine T.ret ?_
    refine TQ.then_r ?_
    refine TQ.rets [6] _ rfl rfl rfl ?_
    exact ⟨by unfold frontE; rw [if_pos (by rw [tx_len, tx_len, tx_len]; omega)]; rfl, rfl⟩
   ·refine T.skip ?_
    refine TQ.then_n ?_
    refine T.seq ?_
    refine T.region ?_
    have hlen : ps.length ≤ 200 ∧ rs.length ≤ 200 ∧ ms.length ≤ 200 := by omega
    refine TL.buildSlice hF rfl (cs := #[]) (e := 22) (fun w => by kernel_rfl) rfl (fun b22 => ?_)
    refine TL.move hF rfl rfl ?_
    refine TL.append hF 0 rfl rfl rfl osl_empty (hx.row.up upc).src rfl (by simp [Value.cells]) (hc1 _) (by omega) (by omega) rfl (fun a1 c1 s1 ho1 => ?_)
    rw [Nat.zero_add, List.nil_append] at ho1
    rw [Nat.zero_add]
    refine TL.move hF rfl rfl ?_
    refine TL.append hF 0 rfl rfl rfl ho1 (hy.row.up upc).src rfl (by simp [Value.cells]) (hc1 _) (by omega) (by omega) rfl (fun a2 c2 s2 ho2 => ?_)
    rw [← List.map_append] at ho2
    refine TL.move hF rfl rfl ?_
    refine TL.append hF 0 rfl rfl rfl ho2 (hm.row.up upc).src rfl (by simp [Value.cells]) (hc1 _) (by omega) (by omega) rfl (fun a3 c3 s3 ho3 => ?_)
    rw [← List.map_append, ← List.length_append, ← List.length_append] at ho3
    rw [← List.length_append, ← List.length_append]
    have hall : LL S w0 (s3 :: η) a3 (ps ++ rs ++ ms) := ⟨ho3.row List.mem_cons_self, fun p hp => by
     rcases List.mem_append.1 hp with h | h
     ·rcases List.mem_append.1 h with h | h
      ·exact (hx.item p h).up upc
      ·exact (hy.item p h).up upc
     ·exact (hm.item p h).up upc⟩
    have hlen2 : (ps ++ rs ++ ms).length ≤ 600 := by rw [List.length_append, List.length_append]; omega
    have hlall : ∀ p ∈ ps ++ rs ++ ms, p.2.1.length < 2 ^ 63 := fun p hp => by
     rcases List.mem_append.1 hp with h | h
     ·exact (List.mem_append.1 h).elim (hlx p) (hly p)
     ·exact hlm p h
    refine TL.assign hF rfl rfl ?_
    refine TL.nil ?_
    refine TQ.then_n ?_
    refine T.seq ?_
    refine T.seq ?_
    refine T.region ?_
    refine TL.assign hF rfl rfl ?_
    refine TL.nil ?_
    refine TQ.then_n ?_
    refine T.block ?_
    refine T.loop (ι := Nat) (fun k => k ≤ (ps ++ rs ++ ms).length ∧ fitT (tx (ps ++ rs ++ ms)) = fitW ((tx (ps ++ rs ++ ms)).headD []).length ((tx (ps ++ rs ++ ms)).drop k)) (fun k => [(0, .slice a ps.length c), (1, .slice b rs.length d), (7, .slice a3 (ps ++ rs ++ ms).length c3), (8, .int .i64 (k : Int))]) (fun _ => s3 :: η) (fun k => (ps ++ rs ++ ms).length - k) 0 ⟨Nat.zero_le _, by simp [fitT]⟩ ⟨rfl, rfl, rfl, rfl, trivial⟩ rfl ?_
    rintro k ⟨hk, hs⟩
    refine T.seq ?_
    refine T.seq ?_
    refine T.region ?_
    refine TL.move hF rfl rfl ?_
    refine TL.move hF rfl rfl ?_
    refine TL.len hF rfl rfl ?_
    refine TL.bin hF rfl rfl rfl rfl ?_
    refine TL.nil ?_
    refine TQ.then_n ?_
    first | refine T.cond_d rfl (fun ht32 => ?_) (fun ht32 => ?_) | refine T.cond _ rfl (fun ht32 => ?_) (fun ht32 => ?_)
    ·refine T.skip ?_
     refine TQ.then_n ?_
     refine T.seq ?_
     refine T.block ?_
     refine T.seq ?_
     have hkl : k < (ps ++ rs ++ ms).length := by omega
     rw [tx_drop hkl, fitW_consT, tx_head (by omega)] at hs
     rcases hit : isT (ps ++ rs ++ ms)[k].2.1 with _ | _
     ·refine T.draw ?_
      refine DR.stepV [_] rfl [(7, _, none)] rfl rfl ⟨⟨rfl, by kernel_rfl⟩, trivial⟩ (fun ext => TL.move hF rfl rfl TL.fin) ?_
      refine DR.stepV [_, _] rfl [(8, _, none)] rfl rfl ⟨⟨rfl, by kernel_rfl⟩, trivial⟩ (fun ext => TL.move hF rfl rfl TL.fin) ?_
      refine DR.stepV [_, _, _] rfl [(35, _, some 0), (36, _, some 1)] rfl rfl ⟨⟨rfl, rfl, rfl⟩, ⟨rfl, rfl, rfl⟩, trivial⟩ (fun ext => TL.indexAddr hF rfl rfl (hall.ad (i := k) (by omega)) (by omega) (by omega) rfl TL.fin) ?_
      refine DR.stepV [_, _, _, _] rfl [(37, _, some 2)] rfl rfl ⟨⟨rfl, rfl, rfl⟩, trivial⟩ (fun ext => TL.load hF rfl (hall.at (i := k) (by omega)) rfl TL.fin) ?_
      refine DR.stepV [_, _, _, _, _] rfl [(38, _, some 3)] rfl rfl ⟨⟨rfl, rfl, rfl⟩, trivial⟩ (fun ext => TL.callV hF (IsTime_fn (hall.it (i := k) (by omega)) (hlall _ (List.getElem_mem _))) rfl rfl TL.fin) ?_
      refine DR.stepV [_, _, _, _, _, _] rfl [(39, _, some 4)] rfl rfl ⟨⟨rfl, rfl, rfl⟩, trivial⟩ (fun ext => TL.not hF rfl rfl TL.fin) ?_
      refine DR.stepV [_, _, _, _, _, _, _] rfl [(40, _, some 5)] rfl rfl ⟨⟨rfl, rfl, rfl⟩, trivial⟩ (fun ext => TL.move hF rfl rfl TL.fin) ?_
      refine DR.stepV [_, _, _, _, _, _, _, _] rfl [(7, _, none), (41, _, some 6)] rfl rfl ⟨⟨rfl, by kernel_rfl⟩, ⟨rfl, rfl, rfl⟩, trivial⟩ (fun ext => TL.off hF rfl rfl rfl (by rw [hit] <;> rfl) rfl TL.fin) ?_
      refine DR.stepV [_, _, _, _, _, _, _, _, _] rfl [(8, _, none), (41, _, some 6)] rfl rfl ⟨⟨rfl, by kernel_rfl⟩, ⟨rfl, rfl, rfl⟩, trivial⟩ (fun ext => TL.off hF rfl rfl rfl (by rw [hit] <;> rfl) rfl TL.fin) ?_
      refine DR.stepV [_, _, _, _, _, _, _, _, _, _] rfl [(42, _, some 7), (43, _, some 8), (41, _, some 6)] rfl rfl ⟨⟨rfl, rfl, rfl⟩, ⟨rfl, rfl, rfl⟩, ⟨rfl, rfl, rfl⟩, trivial⟩ (fun ext => TL.off hF rfl rfl rfl (by rw [hit] <;> rfl) rfl TL.fin) ?_
      refine DR.stepV [_, _, _, _, _, _, _, _, _, _, _] rfl [(44, _, some 9), (41, _, some 6)] rfl rfl ⟨⟨rfl, rfl, rfl⟩, ⟨rfl, rfl, rfl⟩, trivial⟩ (fun ext => TL.off hF rfl rfl rfl (by rw [hit] <;> rfl) rfl TL.fin) ?_
      refine DR.stepV [_, _, _, _, _, _, _, _, _, _, _, _] rfl [(45, _, some 10), (41, _, some 6)] rfl rfl ⟨⟨rfl, rfl, rfl⟩, ⟨rfl, rfl, rfl⟩, trivial⟩ (fun ext => TL.off hF rfl rfl rfl (by rw [hit] <;> rfl) rfl TL.fin) ?_
      refine DR.stepV [_, _, _, _, _, _, _, _, _, _, _, _, _] rfl [(7, _, none), (41, _, some 6)] rfl rfl ⟨⟨rfl, by kernel_rfl⟩, ⟨rfl, rfl, rfl⟩, trivial⟩ (fun ext => TL.off hF rfl rfl rfl (by rw [hit] <;> rfl) rfl TL.fin) ?_
      refine DR.stepV [_, _, _, _, _, _, _, _, _, _, _, _, _, _] rfl [(47, _, some 12), (41, _, some 6)] rfl rfl ⟨⟨rfl, rfl, rfl⟩, ⟨rfl, rfl, rfl⟩, trivial⟩ (fun ext => TL.off hF rfl rfl rfl (by rw [hit] <;> rfl) rfl TL.fin) ?_
      refine DR.stepV [_, _, _, _, _, _, _, _, _, _, _, _, _, _, _] rfl [(48, _, some 13), (41, _, some 6)] rfl rfl ⟨⟨rfl, rfl, rfl⟩, ⟨rfl, rfl, rfl⟩, trivial⟩ (fun ext => TL.off hF rfl rfl rfl (by rw [hit] <;> rfl) rfl TL.fin) ?_
      refine DR.stepV [_, _, _, _, _, _, _, _, _, _, _, _, _, _, _, _] rfl [(49, _, some 14), (41, _, some 6)] rfl rfl ⟨⟨rfl, rfl, rfl⟩, ⟨rfl, rfl, rfl⟩, trivial⟩ (fun ext => TL.off hF rfl rfl rfl (by rw [hit] <;> rfl) rfl TL.fin) ?_
      refine DR.done [(50, _), (49, _), (48, _), (47, _), (46, _), (45, _), (44, _), (43, _), (42, _), (41, _), (40, _), (39, _), (38, _), (37, _), (36, _), (35, _)] [_, _] mixed (by kernel_rfl) (by kernel_rfl) (by kernel_rfl) rfl rfl ?_
      refine TL.off hF rfl rfl rfl (by rw [hit] <;> rfl) rfl ?_
      refine TL.pickT hF rfl (by rw [hit] <;> rfl) rfl rfl ?_
      refine TL.nil ?_
      refine TQ.then_n ?_
      refine T.cond_t rfl rfl ?_
      refine T.seq ?_
      refine T.region ?_
      refine TL.assign hF rfl rfl ?_
      refine TL.nil ?_
      refine TQ.then_n ?_
      refine T.ret ?_
      refine TQ.block_r ?_
      refine TQ.then_r ?_
      refine TQ.then_r ?_
      refine TQ.block_r ?_
      refine TQ.then_r ?_
      refine TQ.hsub η (sub1) ?_
      refine TQ.rets [6] _ rfl rfl rfl ?_
      have e : frontE (tx ps) (tx rs) (tx ms) = 1 := by
       unfold frontE; rw [if_neg (by rw [tx_len, tx_len, tx_len]; omega)]
       rw [← tx_append, ← tx_append, if_neg (by rw [hs, hit]; simp)]
      rw [e]; exact ⟨rfl, rfl⟩
     ·refine T.draw ?_
      refine DR.stepV [_] rfl [(7, _, none)] rfl rfl ⟨⟨rfl, by kernel_rfl⟩, trivial⟩ (fun ext => TL.move hF rfl rfl TL.fin) ?_
      refine DR.stepV [_, _] rfl [(8, _, none)] rfl rfl ⟨⟨rfl, by kernel_rfl⟩, trivial⟩ (fun ext => TL.move hF rfl rfl TL.fin) ?_
      refine DR.stepV [_, _, _] rfl [(35, _, some 0), (36, _, some 1)] rfl rfl ⟨⟨rfl, rfl, rfl⟩, ⟨rfl, rfl, rfl⟩, trivial⟩ (fun ext => TL.indexAddr hF rfl rfl (hall.ad (i := k) (by omega)) (by omega) (by omega) rfl TL.fin) ?_
      refine DR.stepV [_, _, _, _] rfl [(37, _, some 2)] rfl rfl ⟨⟨rfl, rfl, rfl⟩, trivial⟩ (fun ext => TL.load hF rfl (hall.at (i := k) (by omega)) rfl TL.fin) ?_
      refine DR.stepV [_, _, _, _, _] rfl [(38, _, some 3)] rfl rfl ⟨⟨rfl, rfl, rfl⟩, trivial⟩ (fun ext => TL.callV hF (IsTime_fn (hall.it (i := k) (by omega)) (hlall _ (List.getElem_mem _))) rfl rfl TL.fin) ?_
      refine DR.stepV [_, _, _, _, _, _] rfl [(39, _, some 4)] rfl rfl ⟨⟨rfl, rfl, rfl⟩, trivial⟩ (fun ext => TL.not hF rfl rfl TL.fin) ?_
      refine DR.stepV [_, _, _, _, _, _, _] rfl [(40, _, some 5)] rfl rfl ⟨⟨rfl, rfl, rfl⟩, trivial⟩ (fun ext => TL.move hF rfl rfl TL.fin) ?_
      refine DR.stepV [_, _, _, _, _, _, _, _] rfl [(7, _, none), (41, _, some 6)] rfl rfl ⟨⟨rfl, by kernel_rfl⟩, ⟨rfl, rfl, rfl⟩, trivial⟩ (fun ext => TL.on rfl rfl rfl (by rw [hit] <;> rfl) <| TL.move hF rfl rfl TL.fin) ?_
      refine DR.stepV [_, _, _, _, _, _, _, _, _] rfl [(8, _, none), (41, _, some 6)] rfl rfl ⟨⟨rfl, by kernel_rfl⟩, ⟨rfl, rfl, rfl⟩, trivial⟩ (fun ext => TL.on rfl rfl rfl (by rw [hit] <;> rfl) <| TL.move hF rfl rfl TL.fin) ?_
      refine DR.stepV [_, _, _, _, _, _, _, _, _, _] rfl [(42, _, some 7), (43, _, some 8), (41, _, some 6)] rfl rfl ⟨⟨rfl, rfl, rfl⟩, ⟨rfl, rfl, rfl⟩, ⟨rfl, rfl, rfl⟩, trivial⟩ (fun ext => TL.on rfl rfl rfl (by rw [hit] <;> rfl) <| TL.indexAddr hF rfl rfl (hall.ad (i := k) (by omega)) (by omega) (by omega) rfl TL.fin) ?_
      refine DR.stepV [_, _, _, _, _, _, _, _, _, _, _] rfl [(44, _, some 9), (41, _, some 6)] rfl rfl ⟨⟨rfl, rfl, rfl⟩, ⟨rfl, rfl, rfl⟩, trivial⟩ (fun ext => TL.on rfl rfl rfl (by rw [hit] <;> rfl) <| TL.load hF rfl (hall.at (i := k) (by omega)) rfl TL.fin) ?_
      refine DR.stepV [_, _, _, _, _, _, _, _, _, _, _, _] rfl [(45, _, some 10), (41, _, some 6)] rfl rfl ⟨⟨rfl, rfl, rfl⟩, ⟨rfl, rfl, rfl⟩, trivial⟩ (fun ext => TL.on rfl rfl rfl (by rw [hit] <;> rfl) <| TL.len hF rfl rfl TL.fin) ?_
      refine DR.stepV [_, _, _, _, _, _, _, _, _, _, _, _, _] rfl [(7, _, none), (41, _, some 6)] rfl rfl ⟨⟨rfl, by kernel_rfl⟩, ⟨rfl, rfl, rfl⟩, trivial⟩ (fun ext => TL.on rfl rfl rfl (by rw [hit] <;> rfl) <| TL.move hF rfl rfl TL.fin) ?_
      refine DR.stepV [_, _, _, _, _, _, _, _, _, _, _, _, _, _] rfl [(47, _, some 12), (41, _, some 6)] rfl rfl ⟨⟨rfl, rfl, rfl⟩, ⟨rfl, rfl, rfl⟩, trivial⟩ (fun ext => TL.on rfl rfl rfl (by rw [hit] <;> rfl) <| TL.indexAddr hF rfl rfl (hall.ad (i := 0) (by omega)) (by omega) (by omega) rfl TL.fin) ?_
      refine DR.stepV [_, _, _, _, _, _, _, _, _, _, _, _, _, _, _] rfl [(48, _, some 13), (41, _, some 6)] rfl rfl ⟨⟨rfl, rfl, rfl⟩, ⟨rfl, rfl, rfl⟩, trivial⟩ (fun ext => TL.on rfl rfl rfl (by rw [hit] <;> rfl) <| TL.load hF rfl (hall.at (i := 0) (by omega)) rfl TL.fin) ?_
      refine DR.stepV [_, _, _, _, _, _, _, _, _, _, _, _, _, _, _, _] rfl [(49, _, some 14), (41, _, some 6)] rfl rfl ⟨⟨rfl, rfl, rfl⟩, ⟨rfl, rfl, rfl⟩, trivial⟩ (fun ext => TL.on rfl rfl rfl (by rw [hit] <;> rfl) <| TL.len hF rfl rfl TL.fin) ?_
      refine DR.done [(50, _), (49, _), (48, _), (47, _), (46, _), (45, _), (44, _), (43, _), (42, _), (41, _), (40, _), (39, _), (38, _), (37, _), (36, _), (35, _)] [_, _] mixed (by kernel_rfl) (by kernel_rfl) (by kernel_rfl) rfl rfl ?_
      refine TL.on rfl rfl rfl (by rw [hit] <;> rfl) ?_
      refine TL.bin hF rfl rfl rfl rfl ?_
      refine TL.pickF hF rfl (by rw [hit] <;> rfl) rfl rfl ?_
      refine TL.nil ?_
      refine TQ.then_n ?_
      first | refine T.cond_d rfl (fun ht52 => ?_) (fun ht52 => ?_) | refine T.cond _ rfl (fun ht52 => ?_) (fun ht52 => ?_)
      ·refine T.seq ?_
       refine T.region ?_
       refine TL.assign hF rfl rfl ?_
       refine TL.nil ?_
       refine TQ.then_n ?_
       refine T.ret ?_
       refine TQ.block_r ?_
       refine TQ.then_r ?_
       refine TQ.then_r ?_
       refine TQ.block_r ?_
       refine TQ.then_r ?_
       refine TQ.hsub η (sub1) ?_
       refine TQ.rets [6] _ rfl rfl rfl ?_
       have e : frontE (tx ps) (tx rs) (tx ms) = 1 := by
        unfold frontE; rw [if_neg (by rw [tx_len, tx_len, tx_len]; omega)]
        rw [← tx_append, ← tx_append, if_neg (by rw [hs, hit, decide_eq_false (by omega)]; simp)]
       rw [e]; exact ⟨rfl, rfl⟩
      ·refine T.skip ?_
       refine TQ.block_n ?_
       refine TQ.then_n ?_
       refine T.region ?_
       refine TL.move hF rfl rfl ?_
       refine TL.add hF rfl rfl (by omega) (by omega) rfl ?_
       refine TL.assign hF rfl rfl ?_
       refine TL.nil ?_
       refine TQ.round (k + 1) ⟨by omega, by rw [hs, hit, decide_eq_true (by omega), Bool.true_and, Bool.true_and, tx_head (by omega)]⟩ (by omega) ⟨rfl, rfl, rfl, rfl, trivial⟩ rfl
    ·refine T.exit ?_
     refine TQ.then_x ?_
     refine TQ.then_x ?_
     refine TQ.block_x ?_
     refine TQ.then_n ?_
     refine T.seq ?_
     refine T.seq ?_
     refine T.region ?_
     refine TL.move hF rfl rfl ?_
     refine TL.move hF rfl rfl ?_
     have hfit : fitT (tx (ps ++ rs ++ ms)) = true := by rw [hs, List.drop_of_length_le (by rw [tx_len]; omega)]; rfl
     obtain ⟨w, hw4, hwid⟩ := fit_wid hfit
     rw [tx_append, tx_append] at hwid
     have hwp := wid_tx (wid_app (wid_app hwid).1).1
     have hwr := wid_tx (wid_app (wid_app hwid).1).2
     refine TL.call hF (Earliest_fn (hx.up upc) (by omega) (fun p hp => by rw [hwp p hp]; omega) hwp) rfl rfl ?_
     rintro _ _ ⟨f1, f2, f3, f4, rfl, ht1, rfl, hl1, _⟩
     refine TL.callV hF (EqualLists_fn (hx.up (fun z hz => by simp [hz])) (hl1.up (fun z hz => by simp [hz])) (by omega) (fun p hp => by rw [hwp p hp]; omega)) rfl rfl ?_
     refine TL.not hF rfl rfl ?_
     refine TL.move hF rfl rfl ?_
     refine TL.gb (t := 58) rfl (fun g9_58 => ?_) (fun g9_58 => ?_)
     ·refine TL.off hF rfl rfl rfl g9_58 rfl ?_
      refine TL.off hF rfl rfl rfl g9_58 rfl ?_
      refine TL.off hF rfl rfl rfl g9_58 rfl ?_
      refine TL.off hF rfl rfl rfl g9_58 rfl ?_
      refine TL.off hF rfl rfl rfl g9_58 rfl ?_
      refine TL.pickT hF rfl g9_58 rfl rfl ?_
      refine TL.nil ?_
      refine TQ.then_n ?_
      refine T.cond_t rfl rfl ?_
      refine T.seq ?_
      refine T.region ?_
      refine TL.assign hF rfl rfl ?_
      refine TL.nil ?_
      refine TQ.then_n ?_
      refine T.ret ?_
      refine TQ.then_r ?_
      refine TQ.hsub η (subR sub1) ?_
      refine TQ.rets [6] _ rfl rfl rfl ?_
      have e : frontE (tx ps) (tx rs) (tx ms) = 1 := by
       unfold frontE; rw [if_neg (by rw [tx_len, tx_len, tx_len]; omega)]
       rw [← tx_append, ← tx_append, if_pos hfit]
       rw [if_neg (fun q => by rw [show tx f3 = tx ps from ht1.trans q.1.symm] at g9_58; simp at g9_58)]
      rw [e]; exact ⟨rfl, rfl⟩
     ·refine TL.on rfl rfl rfl g9_58 ?_
      refine TL.move hF rfl rfl ?_
      refine TL.on rfl rfl rfl g9_58 ?_
      refine TL.move hF rfl rfl ?_
      refine TL.on rfl rfl rfl g9_58 ?_
      refine TL.call hF (Earliest_fn (hy.up (fun z hz => by simp [hz])) (by omega) (fun p hp => by rw [hwr p hp]; omega) hwr) rfl rfl ?_
      rintro _ _ ⟨g1, g2, g3, g4, rfl, ht2, rfl, hl2', _⟩
      refine TL.on rfl rfl rfl g9_58 ?_
      refine TL.callV hF (EqualLists_fn (hy.up (fun z hz => by simp [hz])) (hl2'.up (fun z hz => by simp [hz])) (by omega) (fun p hp => by rw [hwr p hp]; omega)) rfl rfl ?_
      refine TL.on rfl rfl rfl g9_58 ?_
      refine TL.not hF rfl rfl ?_
      refine TL.pickF hF rfl g9_58 rfl rfl ?_
      refine TL.nil ?_
      refine TQ.then_n ?_
      refine T.cond _ rfl (fun ht64 => ?_) (fun ht64 => ?_)
      ·refine T.seq ?_
       refine T.region ?_
       refine TL.assign hF rfl rfl ?_
       refine TL.nil ?_
       refine TQ.then_n ?_
       refine T.ret ?_
       refine TQ.then_r ?_
       refine TQ.hsub η (subR (subR sub1)) ?_
       refine TQ.rets [6] _ rfl rfl rfl ?_
       have e : frontE (tx ps) (tx rs) (tx ms) = 1 := by
        unfold frontE; rw [if_neg (by rw [tx_len, tx_len, tx_len]; omega)]
        rw [← tx_append, ← tx_append, if_pos hfit]
        rw [if_neg (fun q => by rw [show tx g3 = tx rs from ht2.trans q.2.symm] at ht64; simp at ht64)]
       rw [e]; exact ⟨rfl, rfl⟩
      ·refine T.skip ?_
       refine TQ.then_n ?_
       refine T.seq ?_
       refine T.region ?_
       refine TL.assign hF rfl rfl ?_
       refine TL.nil ?_
       refine TQ.then_n ?_
       refine T.ret ?_
       refine TQ.hsub η (subR (subR sub1)) ?_
       refine TQ.rets [6] _ rfl rfl rfl ?_
       have e : frontE (tx ps) (tx rs) (tx ms) = 0 := by
        unfold frontE; rw [if_neg (by rw [tx_len, tx_len, tx_len]; omega)]
        rw [← tx_append, ← tx_append, if_pos hfit]
        simp only [Bool.not_eq_false', decide_eq_true_eq] at g9_58 ht64
        rw [if_pos ⟨g9_58.trans ht1, ht64.trans ht2⟩]
       rw [e]; exact ⟨rfl, rfl⟩
end Go.Proofs.YteimjjpigohnhaaGreat
