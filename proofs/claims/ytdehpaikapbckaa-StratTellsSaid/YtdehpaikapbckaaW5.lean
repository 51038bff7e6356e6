/- The reference's order of blocks. -/
import Derived.Test.YtdehpaikapbckaaW4
namespace Go.Proofs.Ytdehpaikapbckaa
open Go.Sl
variable {S : Nat → Prop} {w0 : World} {η : Heap}
theorem hasN_fn {a : Option Addr} {l : List Nat} {c : Nat} (j : Nat) (hx : Row S w0 η a (nats l)) (hl : l.length < 2 ^ 63) :
    Rt Try.prog 44 [.slice a l.length c, .int .i64 (j : Int)].toArray S w0 η (fun v η' => v = .bool (l.contains j) ∧ η' = η) := by
  have h := has_fn (a := a) (xs := l.map fun (b : Nat) => (b : Int)) (c := c) (j : Int) (by rw [← nats_ints]; exact hx) (by simpa using hl)
  rw [List.length_map] at h
  refine h.mono fun v η' hv => ?_
  obtain ⟨rfl, rfl⟩ := hv
  have e : decide ((j : Int) ∈ l.map fun (b : Nat) => (b : Int)) = l.contains j := by
    rw [Bool.eq_iff_iff]; simp only [decide_eq_true_eq, List.mem_map, List.contains_iff_mem]
    constructor
    · rintro ⟨b, hb, he⟩
      have : b = j := by omega
      subst this; exact hb
    · exact fun h => ⟨j, h, rfl⟩
  exact ⟨by rw [e], rfl⟩
theorem hp_at {A : Heap} {s : Seg} {r : Heap} {i : Nat} (h : i = A.length) : (A ++ s :: r)[i]? = some s := by
  subst h; rw [List.getElem?_append_right (Nat.le_refl _)]; simp
theorem hp_set {A : Heap} {s s' : Seg} {r : Heap} {i : Nat} (h : i = A.length) : (A ++ s :: r).set i s' = A ++ s' :: r := by
  subst h; rw [List.set_append_right _ _ (Nat.le_refl _)]; simp
structure OSt where
  f : Nat
  done : List Nat
  outs : List (Value × List Nat × Seg)
  oa : Option Addr
  oc : Nat
  og : Seg
  da : Option Addr
  dc : Nat
  dg : Seg
def OSt.hp (s : OSt) (η : Heap) : Heap := s.outs.map (·.2.2) ++ s.og :: s.dg :: η
structure OSt.Ok (n : Nat) (M : Nat → Nat → Bool) (s : OSt) : Prop where
  good : GoodD n M s.done
  outs : ∀ t ∈ s.outs, OSl 3 1 t.1 t.2.1.length (nats t.2.1) t.2.2
  same : orderS n M n [] = s.outs.map (·.2.1) ++ orderS n M s.f s.done
  fuel : n ≤ s.f + s.done.length
  len : s.outs.length ≤ s.done.length
  o : OSl 23 1 (.slice s.oa s.outs.length s.oc) s.outs.length (s.outs.map (·.1)) s.og
  d : OSl 3 1 (.slice s.da s.done.length s.dc) s.done.length (nats s.done) s.dg
theorem GoodD.len {n : Nat} {M : Nat → Nat → Bool} {l : List Nat} (h : GoodD n M l) : l.length ≤ n := by
  have := h.nd.length_le_of_subset (l₂ := List.range n) (fun b hb => by simpa using h.lt b hb)
  simpa using this
def rdy (n : Nat) (M : Nat → Nat → Bool) (done : List Nat) (k j : Nat) : Bool := !done.contains k && (List.range j).all fun b => !M k b || ((blockS n M k).contains b || done.contains b)
theorem rdy_succ (n : Nat) (M : Nat → Nat → Bool) (done : List Nat) (k j : Nat) : rdy n M done k (j + 1) = (rdy n M done k j && (!M k j || ((blockS n M k).contains j || done.contains j))) := by
  unfold rdy; rw [List.range_succ, List.all_append]; simp [Bool.and_assoc]
theorem blockS_len (n : Nat) (M : Nat → Nat → Bool) (a : Nat) : (blockS n M a).length ≤ n := by
  have := (blockS_nodup n M a).length_le_of_subset (l₂ := List.range n) (fun b hb => by simpa using (mem_blockS.1 hb).1)
  simpa using this
/-- What 'Order' hands over: the blocks, in blocks of memory of their own. -/
def OutL (S : Nat → Prop) (w0 : World) (segs : Heap) (a : Option Addr) (ls : List (List Nat)) : Prop := Lists S w0 segs a (ls.map fun l => l.map fun (b : Nat) => (b : Int))
theorem OSt.Ok.lists {n : Nat} {M : Nat → Nat → Bool} {s : OSt} (h : s.Ok n M) : OutL S w0 (s.outs.map (·.2.2) ++ [s.og]) s.oa (s.outs.map (·.2.1)) := by
  refine ⟨s.outs.map fun t => match t.1 with | .slice a _ c => (a, c) | _ => (none, 0), by simp, ?_, ?_⟩
  · have hr : Row S w0 (s.outs.map (·.2.2) ++ [s.og]) s.oa (s.outs.map (·.1)) := h.o.row (by simp)
    have e : List.zipWith (fun (p : Option Addr × Nat) (l : List Int) => Value.slice p.1 l.length p.2) (s.outs.map fun t => match t.1 with | .slice a _ c => (a, c) | _ => (none, 0)) ((s.outs.map (·.2.1)).map fun l => l.map fun (b : Nat) => (b : Int)) = s.outs.map (·.1) := by
      rw [List.map_map, List.zipWith_map, List.zipWith_self]
      apply List.map_congr_left
      intro t ht
      obtain ⟨a, cap, hv⟩ := (h.outs t ht).form
      simp [hv]
    rw [e]; exact hr
  · intro i h1 h2
    have hi : i < s.outs.length := by simpa using h1
    have ho := h.outs s.outs[i] (List.getElem_mem hi)
    obtain ⟨a, cap, hv⟩ := ho.form
    have hm : s.outs[i].2.2 ∈ s.outs.map (·.2.2) ++ [s.og] := List.mem_append_left _ (List.mem_map.2 ⟨_, List.getElem_mem hi, rfl⟩)
    simp only [List.getElem_map, hv]
    rw [← nats_ints]
    rw [hv] at ho
    exact ho.row hm

set_option maxHeartbeats 2000000 in
theorem Order_fn {m : Option Addr} {n mc : Nat} {M : Nat → Nat → Bool} (hn : n ≤ 1000) (hm : Mat S w0 η m n M) (ht : TransM n M) :
    Rt Try.prog 32 [.int .i64 (n : Int), .slice m n mc].toArray S w0 η (fun v η' => ∃ a cap segs, v = .slice a (orderS n M n []).length cap ∧ η' = segs ++ η ∧ OutL S w0 segs a (orderS n M n [])) := by
  have hF := open_wide
  refine Rt.of (fn := Try.f32) Try.func32 rfl rfl ?_
  refine T.seq ?_
  refine T.region ?_
  refine TL.assign hF rfl rfl ?_
  refine TL.nil ?_
  refine TQ.then_n ?_
  refine T.seq ?_
  refine T.region ?_
  refine TL.assign hF rfl rfl ?_
  refine TL.nil ?_
  refine TQ.then_n ?_
  refine T.seq ?_
  refine T.region ?_
  refine TL.assign hF rfl rfl ?_
  refine TL.nil ?_
  refine TQ.then_n ?_
  refine T.seq ?_
  refine T.block ?_
  refine T.hnil ?_
  refine T.hnil ?_
  obtain ⟨f, hf⟩ := hm
  refine T.loop (ι := OSt) (OSt.Ok n M) (fun s => [(0, .int .i64 (n : Int)), (1, .slice m n mc), (5, .slice s.oa s.outs.length s.oc), (6, .slice s.da s.done.length s.dc)]) (fun s => s.hp η) (fun s => n - s.done.length) ⟨n, [], [], none, 0, [], none, 0, []⟩ ⟨GoodD.nil n M, by simp, by simp, by simp, by simp, OSl.nil 23 1, OSl.nil 3 1⟩ ⟨rfl, rfl, rfl, rfl, trivial⟩ rfl ?_
  rintro s hs
  have hsl := hs.good.len
  have hup : ∀ x ∈ η, x ∈ s.hp η := fun x hx => by simp [OSt.hp, hx]
  refine T.seq ?_
  refine T.seq ?_
  refine T.region ?_
  refine TL.move hF rfl rfl ?_
  refine TL.len hF rfl rfl ?_
  refine TL.move hF rfl rfl ?_
  refine TL.bin hF rfl rfl rfl rfl ?_
  refine TL.nil ?_
  refine TQ.then_n ?_
  first | refine T.cond_d rfl (fun ht15 => ?_) (fun ht15 => ?_) | refine T.cond _ rfl (fun ht15 => ?_) (fun ht15 => ?_)
  · refine T.skip ?_
    refine TQ.then_n ?_
    refine T.block ?_
    refine T.seq ?_
    refine T.region ?_
    refine TL.assign hF rfl rfl ?_
    refine TL.nil ?_
    refine TQ.then_n ?_
    refine T.seq ?_
    refine T.region ?_
    refine TL.assign hF rfl rfl ?_
    refine TL.nil ?_
    refine TQ.then_n ?_
    refine T.block ?_
    refine T.loop (ι := Nat × Int × OSt) (fun i => i.1 ≤ n ∧ ((i.2.1 = -1 ∧ i.2.2 = s ∧ ∀ b, b < i.1 → readyS n M s.done b = false) ∨ (0 ≤ i.2.1 ∧ i.2.2.Ok n M ∧ s.done.length < i.2.2.done.length))) (fun i => [(0, .int .i64 (n : Int)), (1, .slice m n mc), (5, .slice i.2.2.oa i.2.2.outs.length i.2.2.oc), (6, .slice i.2.2.da i.2.2.done.length i.2.2.dc), (7, .int .i64 i.2.1), (8, .int .i64 (i.1 : Int))]) (fun i => i.2.2.hp η) (fun i => n - i.1) (0, -1, s) ⟨Nat.zero_le _, .inl ⟨rfl, rfl, by omega⟩⟩ ⟨rfl, rfl, rfl, rfl, rfl, rfl, trivial⟩ rfl ?_
    rintro ⟨k, nx, s'⟩ ⟨hk, hx⟩
    simp only at hk hx
    refine T.seq ?_
    refine T.seq ?_
    refine T.region ?_
    refine TL.move hF rfl rfl ?_
    refine TL.move hF rfl rfl ?_
    refine TL.bin hF rfl rfl rfl rfl ?_
    refine TL.move hF rfl rfl ?_
    refine TL.gd (t := 19) rfl (fun g6_19 => ?_) (fun g6_19 => ?_)
    · refine TL.on rfl rfl rfl (decide_eq_true g6_19) ?_
      refine TL.move hF rfl rfl ?_
      refine TL.on rfl rfl rfl (decide_eq_true g6_19) ?_
      refine TL.bin hF rfl rfl rfl rfl ?_
      refine TL.pickT hF rfl (decide_eq_true g6_19) rfl rfl ?_
      refine TL.nil ?_
      refine TQ.then_n ?_
      first | refine T.cond_d rfl (fun ht22 => ?_) (fun ht22 => ?_) | refine T.cond _ rfl (fun ht22 => ?_) (fun ht22 => ?_)
      · refine T.skip ?_
        refine TQ.then_n ?_
        refine T.seq ?_
        refine T.block ?_
        refine T.seq ?_
        refine T.region ?_
        refine TL.move hF rfl rfl ?_
        refine TL.move hF rfl rfl ?_
        refine TL.move hF rfl rfl ?_
        obtain ⟨hnx, hse, hnr⟩ : nx = -1 ∧ s' = s ∧ ∀ b, b < k → readyS n M s.done b = false := by
          rcases hx with h | h
          · exact h
          · exfalso; simp only at ht22; omega
        subst hse
        refine TL.call hF (block_fn (q := k) hn ⟨f, fun i hi => ⟨(hf i hi).1, (hf i hi).2.1.up hup, (hf i hi).2.2.up hup⟩⟩ (by omega)) rfl rfl ?_
        rintro _ _ ⟨ba, bc, bseg, rfl, rfl, hown⟩
        refine TL.assign hF rfl rfl ?_
        refine TL.nil ?_
        refine TQ.then_n ?_
        refine T.seq ?_
        refine T.region ?_
        refine TL.move hF rfl rfl ?_
        refine TL.move hF rfl rfl ?_
        refine TL.callV hF (hasN_fn k (hs.d.row (by simp [OSt.hp])) (by omega)) rfl rfl ?_
        refine TL.not hF rfl rfl ?_
        refine TL.assign hF rfl rfl ?_
        refine TL.nil ?_
        refine TQ.then_n ?_
        refine T.seq ?_
        refine T.seq ?_
        refine T.region ?_
        refine TL.assign hF rfl rfl ?_
        refine TL.nil ?_
        refine TQ.then_n ?_
        refine T.block ?_
        have hbl := blockS_len n M k
        have hup2 : ∀ x ∈ η, x ∈ bseg :: s'.hp η := fun x hx => List.mem_cons_of_mem _ (hup x hx)
        refine T.loop (ι := Nat) (fun j => j ≤ n) (fun j => [(0, .int .i64 (n : Int)), (1, .slice m n mc), (5, .slice s'.oa s'.outs.length s'.oc), (6, .slice s'.da s'.done.length s'.dc), (7, .int .i64 nx), (8, .int .i64 (k : Int)), (9, .slice ba (blockS n M k).length bc), (10, .bool (rdy n M s'.done k j)), (11, .int .i64 (j : Int))]) (fun j => bseg :: s'.hp η) (fun j => n - j) 0 (Nat.zero_le _) ⟨rfl, rfl, rfl, rfl, rfl, rfl, rfl, congrArg (fun z => some (Value.bool z)) (by simp [rdy]), rfl, trivial⟩ rfl ?_
        rintro j hj
        refine T.seq ?_
        refine T.seq ?_
        refine T.region ?_
        refine TL.move hF rfl rfl ?_
        refine TL.move hF rfl rfl ?_
        refine TL.bin hF rfl rfl rfl rfl ?_
        refine TL.nil ?_
        refine TQ.then_n ?_
        first | refine T.cond_d rfl (fun ht35 => ?_) (fun ht35 => ?_) | refine T.cond _ rfl (fun ht35 => ?_) (fun ht35 => ?_)
        · refine T.skip ?_
          refine TQ.then_n ?_
          refine T.seq ?_
          refine T.block ?_
          refine T.region ?_
          refine TL.move hF rfl rfl ?_
          refine TL.move hF rfl rfl ?_
          refine TL.gb (t := 39) rfl (fun g13_39 => ?_) (fun g13_39 => ?_)
          · refine TL.on rfl rfl rfl g13_39 ?_
            refine TL.move hF rfl rfl ?_
            refine TL.on rfl rfl rfl g13_39 ?_
            refine TL.move hF rfl rfl ?_
            refine TL.on rfl rfl rfl g13_39 ?_
            refine TL.indexAddr hF rfl rfl (hf k (by omega)).1 (by omega) (by omega) rfl ?_
            refine TL.on rfl rfl rfl g13_39 ?_
            refine TL.load hF rfl ((hf k (by omega)).2.1.up hup2) rfl ?_
            refine TL.on rfl rfl rfl g13_39 ?_
            refine TL.move hF rfl rfl ?_
            refine TL.on rfl rfl rfl g13_39 ?_
            refine TL.indexAddr hF rfl rfl ((hf k (by omega)).2.2.bad (j := j) (by omega)) (by omega) (by omega) rfl ?_
            refine TL.on rfl rfl rfl g13_39 ?_
            refine TL.load hF rfl (((hf k (by omega)).2.2.bit (j := j) (by omega)).up hup2) rfl ?_
            refine TL.on rfl rfl rfl g13_39 ?_
            refine TL.not hF rfl rfl ?_
            refine TL.on rfl rfl rfl g13_39 ?_
            refine TL.move hF rfl rfl ?_
            refine TL.gb (t := 48) rfl (fun g13_48 => ?_) (fun g13_48 => ?_)
            · refine TL.off hF rfl rfl rfl g13_48 rfl ?_
              refine TL.off hF rfl rfl rfl g13_48 rfl ?_
              refine TL.off hF rfl rfl rfl g13_48 rfl ?_
              refine TL.on rfl rfl rfl g13_39 ?_
              refine TL.pickT hF rfl g13_48 rfl rfl ?_
              refine TL.on rfl rfl rfl g13_39 ?_
              refine TL.move hF rfl rfl ?_
              refine TL.off hF rfl rfl rfl rfl rfl ?_
              refine TL.off hF rfl rfl rfl rfl rfl ?_
              refine TL.off hF rfl rfl rfl rfl rfl ?_
              refine TL.on rfl rfl rfl g13_39 ?_
              refine TL.pickT hF rfl rfl rfl rfl ?_
              refine TL.pickT hF rfl g13_39 rfl rfl ?_
              refine TL.assign hF rfl rfl ?_
              refine TL.nil ?_
              refine TQ.block_n ?_
              refine TQ.then_n ?_
              refine T.region ?_
              refine TL.move hF rfl rfl ?_
              refine TL.add hF rfl rfl (by omega) (by omega) rfl ?_
              refine TL.assign hF rfl rfl ?_
              refine TL.nil ?_
              refine TQ.round (j + 1) (by omega) (by omega) ⟨rfl, rfl, rfl, rfl, rfl, rfl, rfl, congrArg (fun z => some (Value.bool z)) (by rw [rdy_succ]; simp_all), rfl, trivial⟩ rfl
            · refine TL.on rfl rfl rfl g13_48 ?_
              refine TL.move hF rfl rfl ?_
              refine TL.on rfl rfl rfl g13_48 ?_
              refine TL.move hF rfl rfl ?_
              refine TL.on rfl rfl rfl g13_48 ?_
              refine TL.callV hF (hasN_fn j (hown.row (by simp)) (by omega)) rfl rfl ?_
              refine TL.on rfl rfl rfl g13_39 ?_
              refine TL.pickF hF rfl g13_48 rfl rfl ?_
              refine TL.on rfl rfl rfl g13_39 ?_
              refine TL.move hF rfl rfl ?_
              refine TL.gb (t := 53) rfl (fun g13_53 => ?_) (fun g13_53 => ?_)
              · refine TL.off hF rfl rfl rfl g13_53 rfl ?_
                refine TL.off hF rfl rfl rfl g13_53 rfl ?_
                refine TL.off hF rfl rfl rfl g13_53 rfl ?_
                refine TL.on rfl rfl rfl g13_39 ?_
                refine TL.pickT hF rfl g13_53 rfl rfl ?_
                refine TL.pickT hF rfl g13_39 rfl rfl ?_
                refine TL.assign hF rfl rfl ?_
                refine TL.nil ?_
                refine TQ.block_n ?_
                refine TQ.then_n ?_
                refine T.region ?_
                refine TL.move hF rfl rfl ?_
                refine TL.add hF rfl rfl (by omega) (by omega) rfl ?_
                refine TL.assign hF rfl rfl ?_
                refine TL.nil ?_
                refine TQ.round (j + 1) (by omega) (by omega) ⟨rfl, rfl, rfl, rfl, rfl, rfl, rfl, congrArg (fun z => some (Value.bool z)) (by rw [rdy_succ]; simp_all), rfl, trivial⟩ rfl
              · refine TL.on rfl rfl rfl g13_53 ?_
                refine TL.move hF rfl rfl ?_
                refine TL.on rfl rfl rfl g13_53 ?_
                refine TL.move hF rfl rfl ?_
                refine TL.on rfl rfl rfl g13_53 ?_
                refine TL.callV hF (hasN_fn j (hs.d.row (by simp [OSt.hp])) (by omega)) rfl rfl ?_
                refine TL.on rfl rfl rfl g13_39 ?_
                refine TL.pickF hF rfl g13_53 rfl rfl ?_
                refine TL.pickT hF rfl g13_39 rfl rfl ?_
                refine TL.assign hF rfl rfl ?_
                refine TL.nil ?_
                refine TQ.block_n ?_
                refine TQ.then_n ?_
                refine T.region ?_
                refine TL.move hF rfl rfl ?_
                refine TL.add hF rfl rfl (by omega) (by omega) rfl ?_
                refine TL.assign hF rfl rfl ?_
                refine TL.nil ?_
                refine TQ.round (j + 1) (by omega) (by omega) ⟨rfl, rfl, rfl, rfl, rfl, rfl, rfl, congrArg (fun z => some (Value.bool z)) (by rw [rdy_succ]; simp_all), rfl, trivial⟩ rfl
          · refine TL.off hF rfl rfl rfl g13_39 rfl ?_
            refine TL.off hF rfl rfl rfl g13_39 rfl ?_
            refine TL.off hF rfl rfl rfl g13_39 rfl ?_
            refine TL.off hF rfl rfl rfl g13_39 rfl ?_
            refine TL.off hF rfl rfl rfl g13_39 rfl ?_
            refine TL.off hF rfl rfl rfl g13_39 rfl ?_
            refine TL.off hF rfl rfl rfl g13_39 rfl ?_
            refine TL.off hF rfl rfl rfl g13_39 rfl ?_
            refine TL.off hF rfl rfl rfl g13_39 rfl ?_
            refine TL.offU hF rfl rfl rfl rfl ?_
            refine TL.offU hF rfl rfl rfl rfl ?_
            refine TL.offU hF rfl rfl rfl rfl ?_
            refine TL.off hF rfl rfl rfl g13_39 rfl ?_
            refine TL.off hF rfl rfl rfl g13_39 rfl ?_
            refine TL.offU hF rfl rfl rfl rfl ?_
            refine TL.offU hF rfl rfl rfl rfl ?_
            refine TL.offU hF rfl rfl rfl rfl ?_
            refine TL.off hF rfl rfl rfl g13_39 rfl ?_
            refine TL.pickF hF rfl g13_39 rfl rfl ?_
            refine TL.assign hF rfl rfl ?_
            refine TL.nil ?_
            refine TQ.block_n ?_
            refine TQ.then_n ?_
            refine T.region ?_
            refine TL.move hF rfl rfl ?_
            refine TL.add hF rfl rfl (by omega) (by omega) rfl ?_
            refine TL.assign hF rfl rfl ?_
            refine TL.nil ?_
            refine TQ.round (j + 1) (by omega) (by omega) ⟨rfl, rfl, rfl, rfl, rfl, rfl, rfl, congrArg (fun z => some (Value.bool z)) (by rw [rdy_succ]; simp_all), rfl, trivial⟩ rfl
        · refine T.exit ?_
          refine TQ.then_x ?_
          refine TQ.then_x ?_
          refine TQ.block_x ?_
          refine TQ.then_n ?_
          refine T.seq ?_
          refine T.region ?_
          refine TL.move hF rfl rfl ?_
          refine TL.nil ?_
          refine TQ.then_n ?_
          have hjn : j = n := by omega
          subst hjn
          refine T.cond _ rfl (fun ht59 => ?_) (fun ht59 => ?_)
          · refine T.seq ?_
            refine T.region ?_
            refine TL.move hF rfl rfl ?_
            refine TL.assign hF rfl rfl ?_
            refine TL.nil ?_
            refine TQ.then_n ?_
            refine T.seq ?_
            refine T.region ?_
            refine TL.move hF rfl rfl ?_
            refine TL.move hF rfl rfl ?_
            refine TL.buildSlice hF rfl (cs := #[.slice ba (blockS j M k).length bc]) (e := 23) (fun w => by kernel_rfl) rfl (fun b63 => ?_)
            refine TL.append hF (s'.outs.length + 1 + 1) rfl rfl (by rw [List.getElem?_cons_succ, List.getElem?_cons_succ]; exact hp_at (by simp)) hs.o (row_own (cs := [.slice ba (blockS j M k).length bc]) (e := 23) (by simp)).src rfl rfl (by simp [Value.oneCell']) (by have := hs.len; omega) (by have := hs.len; omega) rfl (fun oa' oc' og' ho' => ?_)
            rw [List.set_cons_succ, List.set_cons_succ, OSt.hp, hp_set (by simp)]
            refine TL.assign hF rfl rfl ?_
            refine TL.nil ?_
            refine TQ.then_n ?_
            refine T.region ?_
            refine TL.move hF rfl rfl ?_
            refine TL.move hF rfl rfl ?_
            refine TL.append hF (s'.outs.length + 1 + 1 + 1) rfl rfl (by rw [List.getElem?_cons_succ, List.getElem?_cons_succ, List.append_cons]; exact hp_at (by simp)) hs.d (hown.row (by simp)).src rfl (by simp) (nats1 _) (by omega) (by omega) rfl (fun da' dc' dg' hd' => ?_)
            rw [List.set_cons_succ, List.set_cons_succ, List.append_cons, hp_set (by simp)]
            refine TL.assign hF rfl rfl ?_
            refine TL.nil ?_
            refine TQ.block_n ?_
            refine TQ.then_n ?_
            refine T.region ?_
            refine TL.move hF rfl rfl ?_
            refine TL.add hF rfl rfl (by omega) (by omega) rfl ?_
            refine TL.assign hF rfl rfl ?_
            refine TL.nil ?_
            have hr : readyS j M s'.done k = true := ht59
            have hpk : pickS j M s'.done = some k := pickS_is (by omega) hr hnr
            obtain ⟨f', hf'⟩ : ∃ f', s'.f = f' + 1 := ⟨s'.f - 1, by have := hs.fuel; omega⟩
            have hbpos : 0 < (blockS j M k).length := List.length_pos_of_mem (self_block (by omega))
            have e1 : (s'.outs ++ [(Value.slice ba (blockS j M k).length bc, blockS j M k, bseg)]).length = s'.outs.length + 1 := by simp
            have e2 : (s'.done ++ blockS j M k).length = s'.done.length + (blockS j M k).length := by simp
            refine TQ.pop ?_
            refine TQ.hperm ((s'.outs.map (·.2.2) ++ [bseg]) ++ og' :: dg' :: η) ?_ ?_
            · simp only [List.append_assoc, List.cons_append, List.nil_append]; exact List.perm_middle
            refine TQ.round (k + 1, (k : Int), ⟨f', s'.done ++ blockS j M k, s'.outs ++ [(Value.slice ba (blockS j M k).length bc, blockS j M k, bseg)], oa', oc', og', da', dc', dg'⟩) ⟨by simp only; omega, .inr ⟨by simp only; omega, ⟨hs.good.step ht (by omega) hr, ?_, ?_, ?_, ?_, by simpa using ho', by simpa using hd'⟩, by simp only [e2]; omega⟩⟩ (by simp only; omega) ⟨rfl, rfl, congrArg (fun z => some (Value.slice oa' z oc')) e1.symm, congrArg (fun z => some (Value.slice da' z dc')) e2.symm, rfl, rfl, trivial⟩ (by simp [OSt.hp])
            · intro t htm
              rcases List.mem_append.1 htm with h | h
              · exact hs.outs t h
              · have : t = (Value.slice ba (blockS j M k).length bc, blockS j M k, bseg) := by simpa using h
                subst this; exact hown
            · rw [hs.same, hf', orderS_step hpk]; simp
            · have := hs.fuel; simp only [e2]; omega
            · have := hs.len; simp only [e1, e2]; omega
          · refine T.skip ?_
            refine TQ.block_n ?_
            refine TQ.then_n ?_
            refine T.region ?_
            refine TL.move hF rfl rfl ?_
            refine TL.add hF rfl rfl (by omega) (by omega) rfl ?_
            refine TL.assign hF rfl rfl ?_
            refine TL.nil ?_
            refine TQ.pop ?_
            refine TQ.round (k + 1, nx, s') ⟨by simp only; omega, .inl ⟨hnx, rfl, fun b hb => ?_⟩⟩ (by simp only; omega) ⟨rfl, rfl, rfl, rfl, rfl, rfl, trivial⟩ rfl
            by_cases hbk : b = k
            · subst hbk; exact ht59
            · exact hnr b (by simp only at hb; omega)
      · refine T.exit ?_
        refine TQ.then_x ?_
        refine TQ.then_x ?_
        refine TQ.block_x ?_
        refine TQ.block_n ?_
        have h2 : s'.Ok n M ∧ s.done.length < s'.done.length := by
          rcases hx with ⟨h1, _, _⟩ | ⟨h1, h2, h3⟩
          · exfalso; simp only at ht22; omega
          · exact ⟨h2, h3⟩
        have := h2.1.good.len
        exact TQ.round s' h2.1 (by omega) ⟨rfl, rfl, rfl, rfl, trivial⟩ rfl
    · refine TL.off hF rfl rfl rfl (decide_eq_false g6_19) rfl ?_
      refine TL.off hF rfl rfl rfl (decide_eq_false g6_19) rfl ?_
      refine TL.pickF hF rfl (decide_eq_false g6_19) rfl rfl ?_
      refine TL.nil ?_
      refine TQ.then_n ?_
      refine T.cond_f rfl rfl ?_
      refine T.exit ?_
      refine TQ.then_x ?_
      refine TQ.then_x ?_
      refine TQ.block_x ?_
      refine TQ.block_n ?_
      have h2 : s'.Ok n M ∧ s.done.length < s'.done.length := by
        rcases hx with ⟨h1, _, h3⟩ | ⟨h1, h2, h3⟩
        · exfalso
          obtain ⟨a0, ha0, had0⟩ := left_over (n := n) (done := s.done) (by omega)
          obtain ⟨a1, ha1, hr1⟩ := some_ready ht ha0 had0
          have := h3 a1 (by simp only at g6_19; omega)
          rw [hr1] at this; cases this
        · exact ⟨h2, h3⟩
      have := h2.1.good.len
      exact TQ.round s' h2.1 (by omega) ⟨rfl, rfl, rfl, rfl, trivial⟩ rfl
  · refine T.exit ?_
    refine TQ.then_x ?_
    refine TQ.then_x ?_
    refine TQ.block_x ?_
    refine TQ.then_n ?_
    refine T.seq ?_
    refine T.region ?_
    refine TL.move hF rfl rfl ?_
    refine TL.assign hF rfl rfl ?_
    refine TL.nil ?_
    refine TQ.then_n ?_
    refine T.ret ?_
    refine TQ.hsub ((s.outs.map (·.2.2) ++ [s.og]) ++ η) ?_ ?_
    · rw [List.append_assoc]; exact List.Sublist.append_left (by simp) _
    refine TQ.rets [4] _ rfl rfl rfl ?_
    have e : orderS n M n [] = s.outs.map (·.2.1) := by rw [hs.same, orderS_end (pick_end hs.good (by omega))]; simp
    rw [e]
    exact ⟨s.oa, s.oc, _, by simp [retVal], rfl, hs.lists⟩
/-- What 'Blocks' of the document hands over. -/
def blocksS (rels : Int) (rs : List RuleD) : List (List Nat) × Int :=
  if check rels rs ≠ 0 then ([], check rels rs)
  else if ordB rels.toNat (ED rs) (fwM (EU rs) rels.toNat) then (orderS rels.toNat (fwM (EU rs) rels.toNat) rels.toNat [], 0) else ([], 10)
theorem check_ok {rels : Int} {rs : List RuleD} (h : check rels rs = 0) : 1 ≤ rels ∧ rels ≤ 48 ∧ rs.length ≤ 60 ∧ errs rels rs = 0 := by
  unfold check at h
  split at h; · omega
  split at h; · omega
  split at h; · omega
  exact ⟨by omega, by omega, by omega, h⟩
theorem errs_ok {rels : Int} : ∀ {rs : List RuleD}, errs rels rs = 0 → ∀ r ∈ rs, checkR rels r = 0
  | [], _, r, hr => by simp at hr
  | x :: rs, h, r, hr => by
    unfold errs at h
    by_cases hx : checkR rels x = 0
    · rw [if_pos hx] at h
      rcases List.mem_cons.1 hr with rfl | hr
      · exact hx
      · exact errs_ok h r hr
    · rw [if_neg hx] at h; exact absurd h hx
theorem errs_body {rels : Int} {rs : List RuleD} (h : errs rels rs = 0) : ∀ r ∈ rs, r.body.length < 2 ^ 63 := fun r hr => by
  have := errs_ok h r hr
  unfold checkR at this
  split at this; · omega
  omega
theorem Lists.none : Lists S w0 η none [] := ⟨[], rfl, ⟨fun h => by simp at h, fun i v h => by simp at h⟩, fun i h => by simp at h⟩

set_option maxHeartbeats 2000000 in
theorem Blocks_fn {p : Option Addr} {rs : List RuleD} {c : Nat} (rels : Int) (hr : Rules S w0 [] p rs) (hl : rs.length < 2 ^ 63) :
    Rt Try.prog 11 [.int .i64 rels, .slice p rs.length c].toArray S w0 η (fun v η' => ∃ a cap segs, v = .tuple #[.slice a (blocksS rels rs).1.length cap, .int .i64 (blocksS rels rs).2] ∧ η' = segs ++ η ∧ OutL S w0 segs a (blocksS rels rs).1) := by
  have hF := open_wide
  refine Rt.of (fn := Try.f11) Try.func11 rfl rfl ?_
  refine T.seq ?_
  refine T.region ?_
  refine TL.assign hF rfl rfl ?_
  refine TL.assign hF rfl rfl ?_
  refine TL.nil ?_
  refine TQ.then_n ?_
  refine T.seq ?_
  refine T.seq ?_
  refine T.region ?_
  refine TL.move hF rfl rfl ?_
  refine TL.move hF rfl rfl ?_
  refine TL.callV hF (Check_fn rels hr.ro hl) rfl rfl ?_
  refine TL.assign hF rfl rfl ?_
  refine TL.nil ?_
  refine TQ.then_n ?_
  refine T.seq ?_
  refine T.region ?_
  refine TL.move hF rfl rfl ?_
  refine TL.bin hF rfl rfl rfl rfl ?_
  refine TL.nil ?_
  refine TQ.then_n ?_
  first | refine T.cond_d rfl (fun ht12 => ?_) (fun ht12 => ?_) | refine T.cond _ rfl (fun ht12 => ?_) (fun ht12 => ?_)
  · refine T.seq ?_
    refine T.region ?_
    refine TL.move hF rfl rfl ?_
    refine TL.assign hF rfl rfl ?_
    refine TL.assign hF rfl rfl ?_
    refine TL.nil ?_
    refine TQ.then_n ?_
    refine T.ret ?_
    refine TQ.then_r ?_
    refine TQ.rets [4, 5] _ rfl rfl rfl ?_
    have e : blocksS rels rs = ([], check rels rs) := by unfold blocksS; rw [if_pos ht12]
    rw [e]
    exact ⟨none, 0, [], rfl, rfl, Lists.none⟩
  · refine T.skip ?_
    refine TQ.then_n ?_
    refine T.seq ?_
    refine T.region ?_
    refine TL.move hF rfl rfl ?_
    refine TL.move hF rfl rfl ?_
    obtain ⟨hk1, hk2, hk3, hk4⟩ := check_ok (Classical.not_not.1 ht12)
    obtain ⟨n, rfl⟩ : ∃ n : Nat, rels = (n : Int) := ⟨rels.toNat, by omega⟩
    have hb := errs_body hk4
    refine TL.call hF (Leads_fn (n := n) hr hl hb (by omega)) rfl rfl ?_
    rintro _ _ ⟨ma, mcap, msg, rfl, rfl, hM⟩
    refine TL.assign hF rfl rfl ?_
    refine TL.nil ?_
    refine TQ.then_n ?_
    refine T.seq ?_
    refine T.seq ?_
    refine T.region ?_
    refine TL.move hF rfl rfl ?_
    refine TL.move hF rfl rfl ?_
    refine TL.move hF rfl rfl ?_
    refine TL.callV hF (ordered_fn hr hl hb (by omega) (hM.up upl)) rfl rfl ?_
    refine TL.not hF rfl rfl ?_
    refine TL.nil ?_
    refine TQ.then_n ?_
    refine T.cond _ rfl (fun ht21 => ?_) (fun ht21 => ?_)
    · refine T.seq ?_
      refine T.region ?_
      refine TL.assign hF rfl rfl ?_
      refine TL.assign hF rfl rfl ?_
      refine TL.nil ?_
      refine TQ.then_n ?_
      refine T.ret ?_
      refine TQ.then_r ?_
      refine TQ.hsub η (List.sublist_append_right _ _) ?_
      refine TQ.rets [4, 5] _ rfl rfl rfl ?_
      have e : blocksS n rs = ([], 10) := by unfold blocksS; rw [if_neg (by simpa using ht12), if_neg (by rw [Int.toNat_natCast]; simpa using ht21)]
      rw [e]
      exact ⟨none, 0, [], rfl, rfl, Lists.none⟩
    · refine T.skip ?_
      refine TQ.then_n ?_
      refine T.seq ?_
      refine T.region ?_
      refine TL.move hF rfl rfl ?_
      refine TL.move hF rfl rfl ?_
      refine TL.call hF (Order_fn (by omega) (hM.up upl) (fw_TransM _ n)) rfl rfl ?_
      rintro _ _ ⟨oa, ocap, osg, rfl, rfl, hO⟩
      refine TL.assign hF rfl rfl ?_
      refine TL.assign hF rfl rfl ?_
      refine TL.nil ?_
      refine TQ.then_n ?_
      refine T.ret ?_
      refine TQ.hsub (osg ++ η) (List.Sublist.append_left (List.sublist_append_right _ _) _) ?_
      refine TQ.rets [4, 5] _ rfl rfl rfl ?_
      have e : blocksS n rs = (orderS n (fwM (EU rs) n) n [], 0) := by unfold blocksS; rw [if_neg (by simpa using ht12), if_pos (by rw [Int.toNat_natCast]; simpa using ht21), Int.toNat_natCast]
      rw [e]
      exact ⟨oa, ocap, osg, rfl, rfl, hO⟩
end Go.Proofs.Ytdehpaikapbckaa
