/- The program's order of blocks. -/
import Derived.Test.YtdehpaikapbckaaW15
namespace Go.Proofs.Ytdehpaikapbckaa
open Go.Sl
variable {S : Nat → Prop} {w0 : World} {η : Heap}
structure PSt where
  f : Nat
  done : List Nat
  outs : List (Value × List Nat × Seg)
  oa : Option Addr
  oc : Nat
  og : Seg
def PSt.fakeA (s : PSt) : Option Addr := some ⟨0, 0, none⟩
def PSt.fakeG (s : PSt) : Seg := [(0, .cells (nats s.done).toArray 3 (0, 0))]
theorem PSt.fake (s : PSt) : OSl 3 1 (.slice s.fakeA s.done.length s.done.length) s.done.length (nats s.done) s.fakeG :=
  ⟨by simp, .inr ⟨0, s.done.length, (nats s.done).toArray, rfl, rfl, Nat.le_refl _, by simp, by rw [Nat.mul_one]; exact List.take_of_length_le (by simp)⟩⟩
structure PSt.Ok (n : Nat) (M : Nat → Nat → Bool) (s : PSt) : Prop where
  good : GoodD n M s.done
  outs : ∀ t ∈ s.outs, OSl 3 1 t.1 t.2.1.length (nats t.2.1) t.2.2
  same : orderS n M n [] = s.outs.map (·.2.1) ++ orderS n M s.f s.done
  fuel : n ≤ s.f + s.done.length
  len : s.outs.length ≤ s.done.length
  o : OSl 23 1 (.slice s.oa s.outs.length s.oc) s.outs.length (s.outs.map (·.1)) s.og
theorem PSt.Ok.lists {n : Nat} {M : Nat → Nat → Bool} {s : PSt} (h : s.Ok n M) : OutL S w0 (s.outs.map (·.2.2) ++ [s.og]) s.oa (s.outs.map (·.2.1)) :=
  OSt.Ok.lists (n := n) (M := M) (s := ⟨s.f, s.done, s.outs, s.oa, s.oc, s.og, s.fakeA, s.done.length, s.fakeG⟩) ⟨h.good, h.outs, h.same, h.fuel, h.len, h.o, s.fake⟩
def T4 (b1 b3 b4 bo bd bw n : Nat) (U : Int → Int → Bool → Bool) (η : Heap) : Heap := [(b4, .cells #[.slice (some ⟨bd, 0, none⟩) n n] 42 (0, 0))] :: [(b3, .cells #[.slice (some ⟨bo, 0, none⟩) n n] 23 (0, 0))] :: iseg bo n (fun i => ((ofS (EN U) n i : Nat) : Int)) :: [(b1, .cells #[ptr bw] 59 (0, 0))] :: η
def PSt.hp (s : PSt) (bd n : Nat) (D : Nat → Bool) (t : Heap) : Heap := dseg bd n D :: s.og :: (s.outs.map (·.2.2) ++ t)
theorem hp_up {s : PSt} {bd n : Nat} {D : Nat → Bool} {t : Heap} : ∀ x ∈ t, x ∈ s.hp bd n D t := fun x hx => by simp [PSt.hp, hx]
theorem T4_up {b1 b3 b4 bo bd bw n : Nat} {U : Int → Int → Bool → Bool} : ∀ x ∈ η, x ∈ T4 b1 b3 b4 bo bd bw n U η := fun x hx => by simp [T4, hx]

set_option maxHeartbeats 2000000 in
theorem blocks_prog {bw n : Nat} {U : Int → Int → Bool → Bool} {m : List ((Int × Int) × Bool)} (hn : n ≤ 48) (hw : Web η bw n U m) (hU : UOk U n) :
    Rt Try.prog 28 [ptr bw].toArray S w0 η (fun v η' => ∃ a cap segs, v = .slice a (orderS n (fwM (EN U) n) n []).length cap ∧ η' = segs ++ η ∧ OutL S w0 segs a (orderS n (fwM (EN U) n) n [])) := by
  have hF := open_wide
  refine Rt.of (fn := Try.f28) Try.func28 rfl rfl ?_
  refine T.seq ?_
  refine T.region ?_
  refine TL.box hF rfl rfl (fun b1 => ?_)
  refine TL.assign hF rfl rfl ?_
  refine TL.nil ?_
  refine TQ.then_n ?_
  refine T.scope ?_
  refine T.seq ?_
  refine T.region ?_
  refine TL.load hF rfl (by first | exact At.own' (i := 0) rfl rfl | exact At.own' (i := 1) rfl rfl | exact At.own' (i := 2) rfl rfl | exact At.own' (i := 3) rfl rfl | exact At.own' (i := 4) rfl rfl) rfl ?_
  refine TL.call hF (of_fn (n := n) hn (hw.up upc)) rfl rfl ?_
  rintro _ _ ⟨bo, rfl, rfl⟩
  refine TL.alloc hF rfl (fun b3 => ?_)
  first | refine TL.storeI hF 0 rfl rfl rfl rfl (by first | decide | simp) ?_ | refine TL.storeI hF 1 rfl rfl rfl rfl (by first | decide | simp) ?_ | refine TL.storeI hF 2 rfl rfl rfl rfl (by first | decide | simp) ?_ | refine TL.storeI hF 3 rfl rfl rfl rfl (by first | decide | simp) ?_
  refine TL.nil ?_
  refine TQ.then_n ?_
  refine T.seq ?_
  refine T.region ?_
  obtain ⟨bm, es, clock, hws, hwm, hwo⟩ := hw.ex
  refine TL.load hF rfl (own_mem (cs := (ptr bw).cells) (e := 59) (fz := (0, 0)) (upc _ (upc _ List.mem_cons_self)) rfl) rfl ?_
  refine TL.nilCheck hF rfl rfl ?_
  refine TL.fieldAddr hF rfl rfl ?_
  refine TL.load hF rfl (own_mem (upc _ (upc _ (upc _ hws))) rfl) rfl ?_
  refine TL.makeSlice hF (k := n) rfl rfl rfl (by omega) (by omega) rfl (fun bd => ?_)
  refine TL.alloc hF rfl (fun b4 => ?_)
  first | refine TL.storeI hF 0 rfl rfl rfl rfl (by first | decide | simp) ?_ | refine TL.storeI hF 1 rfl rfl rfl rfl (by first | decide | simp) ?_ | refine TL.storeI hF 2 rfl rfl rfl rfl (by first | decide | simp) ?_ | refine TL.storeI hF 3 rfl rfl rfl rfl (by first | decide | simp) ?_
  refine TL.nil ?_
  refine TQ.then_n ?_
  refine T.seq ?_
  refine T.region ?_
  refine TL.makeFunc hF rfl rfl rfl ?_
  refine TL.assign hF rfl rfl ?_
  refine TL.nil ?_
  refine TQ.then_n ?_
  refine T.seq ?_
  refine T.label ?_
  refine TQ.then_n ?_
  refine T.seq ?_
  refine T.seq ?_
  refine T.region ?_
  refine TL.assign hF rfl rfl ?_
  refine TL.nil ?_
  refine TQ.then_n ?_
  refine T.block ?_
  refine T.hnil ?_
  refine T.hperm (PSt.hp ⟨n, [], [], none, 0, []⟩ bd n (fun x => ([] : List Nat).contains x) (T4 b1 b3 b4 bo bd bw n U η)) (by
    have e : dseg bd n (fun x => ([] : List Nat).contains x) = [(bd, .cells (List.replicate n (Value.bool false)).toArray 4 (0, 0))] := by rw [rowC_false]; simp
    unfold PSt.hp T4
    rw [e]
    refine List.Perm.trans (List.Perm.swap _ _ _) (List.Perm.cons _ ?_)
    exact List.Perm.swap _ _ _) ?_
  refine T.loop (ι := Nat × PSt) (fun i => i.1 ≤ n ∧ i.2.Ok n (fwM (EN U) n) ∧ ∀ b, b < i.1 → readyS n (fwM (EN U) n) i.2.done b = false) (fun i => [(1, ptr b1), (3, ptr b3), (4, ptr b4), (5, .func (.func 56) #[] #[ptr b1, ptr b3, ptr b4]), (2, .slice i.2.oa i.2.outs.length i.2.oc), (6, .int .i64 (i.1 : Int))]) (fun i => i.2.hp bd n (fun x => i.2.done.contains x) (T4 b1 b3 b4 bo bd bw n U η)) (fun i => (n - i.2.done.length) * (n + 1) + (n - i.1)) (0, ⟨n, [], [], none, 0, []⟩) ⟨Nat.zero_le _, ⟨GoodD.nil _ _, by simp, by simp, by simp, by simp, OSl.nil 23 1⟩, by omega⟩ ⟨rfl, rfl, rfl, rfl, rfl, rfl, trivial⟩ rfl ?_
  rintro ⟨b, s⟩ ⟨hb, hs, hnr⟩
  simp only at hb hs hnr
  have hmem : ∀ x ∈ (T4 b1 b3 b4 bo bd bw n U η), x ∈ s.hp bd n (fun x => s.done.contains x) (T4 b1 b3 b4 bo bd bw n U η) := hp_up
  have hc : ReadyC b1 b3 b4 bo bd bw n U m (fun x => s.done.contains x) (s.hp bd n (fun x => s.done.contains x) (T4 b1 b3 b4 bo bd bw n U η)) := ⟨hmem _ (by simp [T4]), hmem _ (by simp [T4]), hmem _ (by simp [T4]), hmem _ (by simp [T4]), by simp [PSt.hp], hw.up (fun x hx => hmem x (T4_up x hx))⟩
  have hdl := hs.good.len
  refine T.seq ?_
  refine T.seq ?_
  refine T.region ?_
  refine TL.move hF rfl rfl ?_
  refine TL.load hF rfl (own_mem hc.1 rfl) rfl ?_
  refine TL.nilCheck hF rfl rfl ?_
  refine TL.fieldAddr hF rfl rfl ?_
  refine TL.load hF rfl (own_mem (hmem _ (T4_up _ hws)) rfl) rfl ?_
  refine TL.bin hF rfl rfl rfl rfl ?_
  refine TL.nil ?_
  refine TQ.then_n ?_
  first | refine T.cond_d rfl (fun ht23 => ?_) (fun ht23 => ?_) | refine T.cond _ rfl (fun ht23 => ?_) (fun ht23 => ?_)
  · refine T.skip ?_
    refine TQ.then_n ?_
    refine T.seq ?_
    refine T.block ?_
    refine T.seq ?_
    refine T.seq ?_
    refine T.region ?_
    refine TL.load hF rfl (own_mem hc.2.1 rfl) rfl ?_
    refine TL.move hF rfl rfl ?_
    refine TL.indexAddr hF rfl rfl ⟨_, rfl, rfl⟩ (by omega) (by omega) rfl ?_
    refine TL.load hF rfl (iseg_at (f := (fun i => ((ofS (EN U) n i : Nat) : Int))) (n := n) (b := bo) (j := b) hc.2.2.2.1 (by omega)) rfl ?_
    refine TL.move hF rfl rfl ?_
    refine TL.bin hF rfl rfl rfl rfl ?_
    refine TL.move hF rfl rfl ?_
    refine TL.gd (t := 32) rfl (fun g7_32 => ?_) (fun g7_32 => ?_)
    · refine TL.off hF rfl rfl rfl (decide_eq_true g7_32) rfl ?_
      refine TL.off hF rfl rfl rfl (decide_eq_true g7_32) rfl ?_
      refine TL.off hF rfl rfl rfl (decide_eq_true g7_32) rfl ?_
      refine TL.off hF rfl rfl rfl (decide_eq_true g7_32) rfl ?_
      refine TL.pickT hF rfl (decide_eq_true g7_32) rfl rfl ?_
      refine TL.move hF rfl rfl ?_
      refine TL.off hF rfl rfl rfl rfl rfl ?_
      refine TL.off hF rfl rfl rfl rfl rfl ?_
      refine TL.off hF rfl rfl rfl rfl rfl ?_
      refine TL.off hF rfl rfl rfl rfl rfl ?_
      refine TL.pickT hF rfl rfl rfl rfl ?_
      refine TL.nil ?_
      refine TQ.then_n ?_
      refine T.cond_t rfl rfl ?_
      refine T.exit ?_
      refine TQ.then_x ?_
      refine TQ.block_x ?_
      refine TQ.then_n ?_
      refine T.region ?_
      refine TL.move hF rfl rfl ?_
      refine TL.add hF rfl rfl (by omega) (by omega) rfl ?_
      refine TL.assign hF rfl rfl ?_
      refine TL.nil ?_
      have hbn : b < n := by have h : (b : Int) < n := ht23; omega
      have hns : readyS n (fwM (EN U) n) s.done b = false := by
        rw [Bool.eq_false_iff]; intro h
        obtain ⟨h1, h2, h3⟩ := ready_head hs.good hbn h
        have hle := ofS_le (E := EN U) (n := n) (r := b)
        have := hnr (ofS (EN U) n b) (by have h4 : ((ofS (EN U) n b : Nat) : Int) ≠ b := g7_32; omega)
        rw [h2] at this; cases this
      refine TQ.round (b + 1, s) ⟨by simp only; omega, hs, fun b' hb' => ?_⟩ (Nat.add_lt_add_left (by simp only; omega) _) ⟨rfl, rfl, rfl, rfl, rfl, rfl, trivial⟩ rfl
      by_cases hbb : b' = b
      · subst hbb; exact hns
      · exact hnr b' (by simp only at hb'; omega)
    · refine TL.on rfl rfl rfl (decide_eq_false g7_32) ?_
      refine TL.load hF rfl (own_mem hc.2.2.1 rfl) rfl ?_
      refine TL.on rfl rfl rfl (decide_eq_false g7_32) ?_
      refine TL.move hF rfl rfl ?_
      refine TL.on rfl rfl rfl (decide_eq_false g7_32) ?_
      refine TL.indexAddr hF rfl rfl ⟨_, rfl, rfl⟩ (by omega) (by omega) rfl ?_
      refine TL.on rfl rfl rfl (decide_eq_false g7_32) ?_
      refine TL.load hF rfl (dseg_at (D := (fun x => s.done.contains x)) (n := n) (b := bd) (j := b) hc.2.2.2.2.1 (by omega)) rfl ?_
      refine TL.pickF hF rfl (decide_eq_false g7_32) rfl rfl ?_
      refine TL.move hF rfl rfl ?_
      refine TL.gb (t := 38) rfl (fun g7_38 => ?_) (fun g7_38 => ?_)
      · refine TL.off hF rfl rfl rfl g7_38 rfl ?_
        refine TL.off hF rfl rfl rfl g7_38 rfl ?_
        refine TL.off hF rfl rfl rfl g7_38 rfl ?_
        refine TL.off hF rfl rfl rfl g7_38 rfl ?_
        refine TL.pickT hF rfl g7_38 rfl rfl ?_
        refine TL.nil ?_
        refine TQ.then_n ?_
        refine T.cond_t rfl rfl ?_
        refine T.exit ?_
        refine TQ.then_x ?_
        refine TQ.block_x ?_
        refine TQ.then_n ?_
        refine T.region ?_
        refine TL.move hF rfl rfl ?_
        refine TL.add hF rfl rfl (by omega) (by omega) rfl ?_
        refine TL.assign hF rfl rfl ?_
        refine TL.nil ?_
        have hbn : b < n := by have h : (b : Int) < n := ht23; omega
        have hns : readyS n (fwM (EN U) n) s.done b = false := by
          rw [Bool.eq_false_iff]; intro h
          exact (readyS_iff.1 h).1 (by simpa using g7_38)
        refine TQ.round (b + 1, s) ⟨by simp only; omega, hs, fun b' hb' => ?_⟩ (Nat.add_lt_add_left (by simp only; omega) _) ⟨rfl, rfl, rfl, rfl, rfl, rfl, trivial⟩ rfl
        by_cases hbb : b' = b
        · subst hbb; exact hns
        · exact hnr b' (by simp only at hb'; omega)
      · refine TL.on rfl rfl rfl g7_38 ?_
        refine TL.move hF rfl rfl ?_
        refine TL.on rfl rfl rfl g7_38 ?_
        refine TL.move hF rfl rfl ?_
        refine TL.on rfl rfl rfl g7_38 ?_
        refine TL.call hF (ready_fn (b := b) hn hU hc) rfl rfl ?_
        rintro _ _ ⟨rr, rfl, rfl, hrr⟩
        refine TL.on rfl rfl rfl g7_38 ?_
        refine TL.not hF rfl rfl ?_
        refine TL.pickF hF rfl g7_38 rfl rfl ?_
        refine TL.nil ?_
        refine TQ.then_n ?_
        refine T.cond _ rfl (fun ht43 => ?_) (fun ht43 => ?_)
        · refine T.exit ?_
          refine TQ.then_x ?_
          refine TQ.block_x ?_
          refine TQ.then_n ?_
          refine T.region ?_
          refine TL.move hF rfl rfl ?_
          refine TL.add hF rfl rfl (by omega) (by omega) rfl ?_
          refine TL.assign hF rfl rfl ?_
          refine TL.nil ?_
          have hbn : b < n := by have h : (b : Int) < n := ht23; omega
          have hns : readyS n (fwM (EN U) n) s.done b = false := by
            rw [Bool.eq_false_iff]; intro h
            have h2 := hrr.2 (ready_RP hbn (by have h4 : ¬ ((ofS (EN U) n b : Nat) : Int) ≠ b := g7_32; omega) h)
            rw [h2] at ht43; cases ht43
          refine TQ.round (b + 1, s) ⟨by simp only; omega, hs, fun b' hb' => ?_⟩ (Nat.add_lt_add_left (by simp only; omega) _) ⟨rfl, rfl, rfl, rfl, rfl, rfl, trivial⟩ rfl
          by_cases hbb : b' = b
          · subst hbb; exact hns
          · exact hnr b' (by simp only at hb'; omega)
        · refine T.skip ?_
          refine TQ.then_n ?_
          refine T.seq ?_
          refine T.region ?_
          refine TL.assign hF rfl rfl ?_
          refine TL.nil ?_
          refine TQ.then_n ?_
          refine T.seq ?_
          refine T.seq ?_
          refine T.region ?_
          refine TL.load hF rfl (own_mem hc.2.1 rfl) rfl ?_
          refine TL.len hF rfl rfl ?_
          refine TL.move hF rfl rfl ?_
          refine TL.nil ?_
          refine TQ.then_n ?_
          refine T.block ?_
          have hbn : b < n := by have h : (b : Int) < n := ht23; omega
          have hob : ofS (EN U) n b = b := by omega
          have hbd : b ∉ s.done := by simpa using g7_38
          have hrd : readyS n (fwM (EN U) n) s.done b = true := RP_ready hs.good hbn hob hbd (hrr.1 (by simpa using ht43))
          refine T.hnil ?_
          refine T.loop (ι := Nat × List Nat × Option Addr × Nat × Seg) (fun i => i.1 ≤ n ∧ i.2.1 = (List.range i.1).filter (fun r => decide (ofS (EN U) n r = b)) ∧ OSl 3 1 (.slice i.2.2.1 i.2.1.length i.2.2.2.1) i.2.1.length (nats i.2.1) i.2.2.2.2) (fun i => [(1, ptr b1), (3, ptr b3), (4, ptr b4), (5, .func (.func 56) #[] #[ptr b1, ptr b3, ptr b4]), (2, .slice s.oa s.outs.length s.oc), (6, .int .i64 (b : Int)), (7, .slice i.2.2.1 i.2.1.length i.2.2.2.1), (44, .slice (some ⟨bo, 0, none⟩) n n), (45, .int .i64 (n : Int)), (46, .int .i64 (i.1 : Int))]) (fun i => i.2.2.2.2 :: s.hp bd n (fun x => s.done.contains x || (decide (x < i.1) && decide (ofS (EN U) n x = b))) (T4 b1 b3 b4 bo bd bw n U η)) (fun i => n - i.1) (0, [], none, 0, []) ⟨Nat.zero_le _, rfl, OSl.nil 3 1⟩ ⟨rfl, rfl, rfl, rfl, rfl, rfl, rfl, rfl, rfl, rfl, trivial⟩ (by simp [PSt.hp]) ?_
          rintro ⟨k, l, la, lc, lg⟩ ⟨hk, hl, hlo⟩
          simp only at hk hl hlo
          have hlen : l.length ≤ k := by rw [hl]; simpa using List.length_filter_le (p := fun r => decide (ofS (EN U) n r = b)) (l := List.range k)
          have hm2 : ∀ x ∈ (T4 b1 b3 b4 bo bd bw n U η), x ∈ lg :: s.hp bd n (fun x => s.done.contains x || (decide (x < k) && decide (ofS (EN U) n x = b))) (T4 b1 b3 b4 bo bd bw n U η) := fun x hx => upc _ (hp_up x hx)
          refine T.seq ?_
          refine T.region ?_
          refine TL.bin hF rfl rfl rfl rfl ?_
          refine TL.nil ?_
          refine TQ.then_n ?_
          refine T.seq ?_
          first | refine T.cond_d rfl (fun ht47 => ?_) (fun ht47 => ?_) | refine T.cond _ rfl (fun ht47 => ?_) (fun ht47 => ?_)
          · refine T.skip ?_
            refine TQ.then_n ?_
            refine T.seq ?_
            refine T.block ?_
            refine T.seq ?_
            refine T.region ?_
            refine TL.move hF rfl rfl ?_
            refine TL.indexAddr hF rfl rfl ⟨_, rfl, rfl⟩ (by omega) (by omega) rfl ?_
            refine TL.load hF rfl (iseg_at (f := (fun i => ((ofS (EN U) n i : Nat) : Int))) (n := n) (b := bo) (j := k) (hm2 _ (by simp [T4])) (by omega)) rfl ?_
            refine TL.assign hF rfl rfl ?_
            refine TL.assign hF rfl rfl ?_
            refine TL.nil ?_
            refine TQ.then_n ?_
            refine T.seq ?_
            refine T.region ?_
            refine TL.move hF rfl rfl ?_
            refine TL.move hF rfl rfl ?_
            refine TL.bin hF rfl rfl rfl rfl ?_
            refine TL.nil ?_
            refine TQ.then_n ?_
            first | refine T.cond_d rfl (fun ht53 => ?_) (fun ht53 => ?_) | refine T.cond _ rfl (fun ht53 => ?_) (fun ht53 => ?_)
            · refine T.seq ?_
              refine T.region ?_
              refine TL.move hF rfl rfl ?_
              refine TL.move hF rfl rfl ?_
              refine TL.buildSlice hF rfl (cs := #[.int .i64 (k : Int)]) (e := 3) (fun w => by kernel_rfl) rfl (fun b56 => ?_)
              refine TL.append hF 1 rfl rfl rfl hlo (row_own (cs := [.int .i64 (k : Int)]) (e := 3) (by simp)).src rfl rfl (by simp [Value.oneCell']) (by omega) (by omega) rfl (fun a' cap' seg' ho' => ?_)
              refine TL.assign hF rfl rfl ?_
              refine TL.nil ?_
              refine TQ.then_n ?_
              refine T.region ?_
              refine TL.load hF rfl (own_mem (cs := #[.slice (some ⟨bd, 0, none⟩) n n]) (e := 42) (fz := (0, 0)) (upc _ (upc _ (hp_up _ (by simp [T4])))) rfl) rfl ?_
              refine TL.move hF rfl rfl ?_
              refine TL.indexAddr hF rfl rfl ⟨_, rfl, rfl⟩ (by omega) (by omega) rfl ?_
              refine TL.storeI hF 2 rfl rfl rfl rfl (by simp [rowC_len]; omega) ?_
              refine TL.nil ?_
              refine TQ.block_n ?_
              refine TQ.then_n ?_
              refine T.region ?_
              refine TL.add hF rfl rfl (by omega) (by omega) rfl ?_
              refine TL.move hF rfl rfl ?_
              refine TL.nil ?_
              have e1 : (l ++ [k]).length = l.length + 1 := by simp
              refine TQ.pop ?_
              refine TQ.round (k + 1, l ++ [k], a', cap', seg') ⟨by simp only; omega, ?_, by simpa using ho'⟩ (by simp only; omega) ⟨rfl, rfl, rfl, rfl, rfl, rfl, congrArg (fun z => some (Value.slice a' z cap')) e1.symm, rfl, rfl, rfl, trivial⟩ ?_
              · have hok : ofS (EN U) n k = b := by omega
                rw [List.range_succ, List.filter_append, ← hl]; simp [hok]
              · refine congrArg (fun r : Array Value => (seg' :: [(bd, Obj.cells r 4 (0, 0))] :: s.og :: (s.outs.map (·.2.2) ++ T4 b1 b3 b4 bo bd bw n U η) : Heap)) (rowC_set (j := 0 + (k : Int).toNat * 1) (fun x hx => ?_))
                by_cases hxk : x = k
                · subst hxk; rw [if_pos (by omega)]; simp [show ofS (EN U) n x = b by omega]
                · rw [if_neg (by omega), show decide (x < k + 1) = decide (x < k) by rw [Bool.eq_iff_iff]; simp only [decide_eq_true_eq]; omega]
            · refine T.skip ?_
              refine TQ.block_n ?_
              refine TQ.then_n ?_
              refine T.region ?_
              refine TL.add hF rfl rfl (by omega) (by omega) rfl ?_
              refine TL.move hF rfl rfl ?_
              refine TL.nil ?_
              refine TQ.round (k + 1, l, la, lc, lg) ⟨by simp only; omega, ?_, hlo⟩ (by simp only; omega) ⟨rfl, rfl, rfl, rfl, rfl, rfl, rfl, rfl, rfl, rfl, trivial⟩ ?_
              · have hok : ¬ ofS (EN U) n k = b := by omega
                rw [List.range_succ, List.filter_append, ← hl]; simp [hok]
              · refine congrArg (fun r : List Value => (lg :: [(bd, Obj.cells r.toArray 4 (0, 0))] :: s.og :: (s.outs.map (·.2.2) ++ T4 b1 b3 b4 bo bd bw n U η) : Heap)) (rowC_congr (fun x hx => ?_))
                by_cases hxk : x = k
                · subst hxk; simp [show ¬ ofS (EN U) n x = b by omega]
                · rw [show decide (x < k + 1) = decide (x < k) by rw [Bool.eq_iff_iff]; simp only [decide_eq_true_eq]; omega]
          · refine T.exit ?_
            refine TQ.then_x ?_
            refine TQ.then_x ?_
            refine TQ.block_x ?_
            refine TQ.then_n ?_
            refine T.seq ?_
            refine T.region ?_
            refine TL.move hF rfl rfl ?_
            refine TL.move hF rfl rfl ?_
            refine TL.buildSlice hF rfl (cs := #[.slice la l.length lc]) (e := 23) (fun w => by kernel_rfl) rfl (fun b64 => ?_)
            refine TL.append hF 3 rfl rfl rfl hs.o (row_own (cs := [.slice la l.length lc]) (e := 23) (by simp)).src rfl rfl (by simp [Value.oneCell']) (by have := hs.len; omega) (by have := hs.len; omega) rfl (fun oa' oc' og' ho' => ?_)
            refine TL.assign hF rfl rfl ?_
            refine TL.nil ?_
            refine TQ.then_n ?_
            refine T.region ?_
            refine TL.assign hF rfl rfl ?_
            refine TL.nil ?_
            refine TQ.block_n ?_
            refine TQ.then_n ?_
            refine T.region ?_
            refine TL.move hF rfl rfl ?_
            refine TL.add hF rfl rfl (by omega) (by omega) rfl ?_
            refine TL.assign hF rfl rfl ?_
            refine TL.nil ?_
            have hkn : n = k := by omega
            subst hkn
            have hlb : l = blockS n (fwM (EN U) n) b := hl.trans (head_block hbn hob)
            have hpk : pickS n (fwM (EN U) n) s.done = some b := pickS_is hbn hrd hnr
            have hdlt : s.done.length < n := by
              rcases Nat.lt_or_ge s.done.length n with h | h
              · exact h
              · exact absurd (all_done hs.good h b hbn) hbd
            obtain ⟨f', hf'⟩ : ∃ f', s.f = f' + 1 := ⟨s.f - 1, by have := hs.fuel; omega⟩
            have hbpos : 0 < l.length := by rw [hlb]; exact List.length_pos_of_mem (self_block hbn)
            have e1 : (s.outs ++ [(Value.slice la l.length lc, l, lg)]).length = s.outs.length + 1 := by simp
            have e2 : (s.done ++ l).length = s.done.length + l.length := by simp
            have hg2 : GoodD n (fwM (EN U) n) (s.done ++ l) := by rw [hlb]; exact hs.good.step (fw_TransM _ n) hbn hrd
            have hg2l := hg2.len
            refine TQ.pop ?_
            refine TQ.hperm (PSt.hp ⟨f', s.done ++ l, s.outs ++ [(Value.slice la l.length lc, l, lg)], oa', oc', og'⟩ bd n (fun x => (s.done ++ l).contains x) (T4 b1 b3 b4 bo bd bw n U η)) ?_ ?_
            · have e : dseg bd n (fun x => (s.done ++ l).contains x) = dseg bd n (fun x => s.done.contains x || (decide (x < n) && decide (ofS (EN U) n x = b))) := by
                unfold dseg
                rw [rowC_congr (fun x hx => ?_)]
                rw [Bool.eq_iff_iff]
                simp only [List.contains_iff_mem, List.mem_append, Bool.or_eq_true, Bool.and_eq_true, decide_eq_true_eq]
                rw [hl]; simp
              unfold PSt.hp
              rw [e]
              simp only [List.map_append, List.map_cons, List.map_nil, List.append_assoc, List.cons_append, List.nil_append]
              exact List.perm_middle (l₁ := _ :: _ :: s.outs.map (·.2.2))
            refine TQ.round (0, ⟨f', s.done ++ l, s.outs ++ [(Value.slice la l.length lc, l, lg)], oa', oc', og'⟩) ⟨Nat.zero_le _, ⟨hg2, ?_, ?_, ?_, ?_, by simpa using ho'⟩, by simp⟩ ?_ ⟨rfl, rfl, rfl, rfl, congrArg (fun z => some (Value.slice oa' z oc')) e1.symm, rfl, trivial⟩ rfl
            · intro t htm
              rcases List.mem_append.1 htm with h | h
              · exact hs.outs t h
              · have : t = (Value.slice la l.length lc, l, lg) := by simpa using h
                subst this; exact hlo
            · rw [hs.same, hf', orderS_step hpk, ← hlb]; simp
            · have := hs.fuel; simp only [e2]; omega
            · have := hs.len; simp only [e1, e2]; omega
            · simp only [e2]
              have h5 := Nat.mul_le_mul_right (n + 1) (show n - (s.done.length + l.length) + 1 ≤ n - s.done.length by omega)
              rw [Nat.add_mul, Nat.one_mul] at h5
              omega
  · refine T.exit ?_
    refine TQ.then_x ?_
    refine TQ.then_x ?_
    refine TQ.block_x ?_
    refine TQ.then_n ?_
    refine T.seq ?_
    refine T.region ?_
    refine TL.move hF rfl rfl ?_
    refine TL.assign hF rfl rfl ?_
    refine TL.nil ?_
    refine TQ.then_n ?_
    refine T.ret ?_
    refine TQ.scope_r ?_
    refine TQ.hsub (s.og :: (s.outs.map (·.2.2) ++ η)) (List.Sublist.cons _ (List.Sublist.cons_cons _ (List.Sublist.append_left (List.Sublist.cons _ (List.Sublist.cons _ (List.Sublist.cons _ (List.sublist_cons_self _ _)))) _))) ?_
    refine TQ.hperm ((s.outs.map (·.2.2) ++ [s.og]) ++ η) ?_ ?_
    · rw [List.append_assoc]; exact List.perm_middle
    refine TQ.rets [2] _ rfl rfl rfl ?_
    have hbn : b = n := by have h : ¬ (b : Int) < n := ht23; omega
    have e : orderS n (fwM (EN U) n) n [] = s.outs.map (·.2.1) := by rw [hs.same, orderS_end (pickS_none.2 (fun a ha => hnr a (by omega)))]; simp
    rw [e]
    exact ⟨s.oa, s.oc, _, by simp [retVal], rfl, hs.lists⟩
end Go.Proofs.Ytdehpaikapbckaa
