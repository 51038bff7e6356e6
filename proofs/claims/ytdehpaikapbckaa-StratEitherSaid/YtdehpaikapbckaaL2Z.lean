/- Either there are blocks, in order, that deny none of their own; or there is a cycle of denial: for every input. No condition. -/
import Derived.Test.YtdehpaikapbckaaPf
import Derived.Test.YtdehpaikapbckaaPb
import Derived.Test.YtdehpaikapbckaaPg
import Derived.Test.YtdehpaikapbckaaRows
/- The law of what changes reach. -/
namespace Go.Proofs.Ytdehpaikapbckaa
open Go.Sl
variable {S : Nat → Prop} {w0 : World} {η : Heap}
abbrev u8s (l : List Nat) : List Value := l.map fun (n : Nat) => .int .u8 (n : Int)
theorem u8_wrap {n : Nat} (h : n < 256) : IntKind.i64.wrap (n : Int) = (n : Int) := wrap_i64 (by omega) (by omega)
theorem changed_take {ys : List Nat} {R k : Nat} (hk : k < ys.length) : (ys.take (k + 1)).map (· % R) = (ys.take k).map (· % R) ++ [ys[k] % R] := by
  rw [List.take_succ_eq_append_getElem hk, List.map_append]; rfl
theorem users_succ {E : Nat → Nat → Bool} {x k : Nat} (h : E k x = true) : (List.range (k + 1)).filter (fun b => E b x) = ((List.range k).filter fun b => E b x) ++ [k] := by
  rw [List.range_succ, List.filter_append]; simp [h]
theorem users_skip {E : Nat → Nat → Bool} {x k : Nat} (h : ¬ E k x = true) : (List.range (k + 1)).filter (fun b => E b x) = (List.range k).filter fun b => E b x := by
  rw [List.range_succ, List.filter_append]; simp [h]
theorem users_len {E : Nat → Nat → Bool} {x k : Nat} : ((List.range k).filter fun b => E b x).length ≤ k := by
  have := List.length_filter_le (fun b => E b x) (List.range k); simpa using this
theorem Mat.frz {S' : Nat → Prop} {w1 : World} {ηr : Heap} {a : Option Addr} {n : Nat} {M : Nat → Nat → Bool} (h : Mat S w0 ηr a n M) (hz : Frz S S' w0 w1 ηr) : Mat S' w1 [] a n M := by
  obtain ⟨f, hf⟩ := h
  exact ⟨f, fun i hi => ⟨(hf i hi).1, hz.get _ _ (hf i hi).2.1, (hf i hi).2.2.frz hz⟩⟩
theorem Mat.old {S' : Nat → Prop} {w1 : World} {ηr : Heap} {a : Option Addr} {n : Nat} {M : Nat → Nat → Bool} (h : Mat S w0 [] a n M) (hz : Frz S S' w0 w1 ηr) : Mat S' w1 [] a n M := by
  obtain ⟨f, hf⟩ := h
  exact ⟨f, fun i hi => ⟨(hf i hi).1, hz.old (hf i hi).2.1, (hf i hi).2.2.old hz⟩⟩
theorem casts_mod (l : List Nat) : (casts l).map Int.toNat = l := by
  unfold casts; rw [List.map_map]; simp [Function.comp_def]
theorem filter_get {n k : Nat} {p : Nat → Bool} (hk : k < n) (hp : p k = true) : ((List.range n).filter p)[((List.range k).filter p).length]? = some k := by
  have h := filter_enc (n := n) (p := p) hk hp
  rw [List.getElem?_map] at h
  cases hg : ((List.range n).filter p)[((List.range k).filter p).length]? with
  | none => rw [hg] at h; cases h
  | some x => rw [hg] at h; simp at h; rw [show x = k by omega]

set_option maxHeartbeats 2000000 in
theorem StratReaches_fn {fa ga : Option Addr} {xs ys : List Nat} {m fc gc : Nat} (hm : m < 256) (hx : Row S w0 [] fa (u16s xs)) (hfc : xs.length ≤ fc) (hxs : ∀ n ∈ xs, n < 65536) (hl : xs.length < 2 ^ 63) (hy : Row S w0 [] ga (u8s ys)) (hys : ∀ n ∈ ys, n < 256) :
    Rt Try.prog 7 [.int .u8 (m : Int), .slice fa xs.length fc, .slice ga ys.length gc].toArray S w0 [] (fun v _ => v = .bool true) := by
  have hF := open_wide
  refine Rt.of (fn := Try.f7) Try.func7 rfl rfl ?_
  refine T.seq ?_
  refine T.region ?_
  refine TL.assign hF rfl rfl ?_
  refine TL.nil ?_
  refine TQ.then_n ?_
  refine T.seq ?_
  refine T.seq ?_
  refine T.region ?_
  have hb := Back.refl S w0
  refine TL.move hF rfl rfl ?_
  refine TL.len hF rfl rfl ?_
  refine TL.bin hF rfl rfl rfl rfl ?_
  refine TL.move hF rfl rfl ?_
  refine TL.gd (t := 26) rfl (fun g1_26 => ?_) (fun g1_26 => ?_)
  · refine TL.off hF rfl rfl rfl (decide_eq_true g1_26) rfl ?_
    refine TL.off hF rfl rfl rfl (decide_eq_true g1_26) rfl ?_
    refine TL.off hF rfl rfl rfl (decide_eq_true g1_26) rfl ?_
    refine TL.pickT hF rfl (decide_eq_true g1_26) rfl rfl ?_
    refine TL.nil ?_
    refine TQ.then_n ?_
    refine T.cond_t rfl rfl ?_
    refine T.seq ?_
    refine T.region ?_
    refine TL.call hF awake_fn rfl rfl ?_
    rintro _ _ rfl
    refine TL.assign hF rfl rfl ?_
    refine TL.nil ?_
    refine TQ.then_n ?_
    refine T.ret ?_
    refine TQ.then_r ?_
    exact TQ.retsF [6] _ hb rfl rfl rfl (fun _ => rfl)
  · refine TL.on rfl rfl rfl (decide_eq_false g1_26) ?_
    refine TL.move hF rfl rfl ?_
    refine TL.on rfl rfl rfl (decide_eq_false g1_26) ?_
    refine TL.len hF rfl rfl ?_
    refine TL.on rfl rfl rfl (decide_eq_false g1_26) ?_
    refine TL.bin hF rfl rfl rfl rfl ?_
    refine TL.pickF hF rfl (decide_eq_false g1_26) rfl rfl ?_
    refine TL.nil ?_
    refine TQ.then_n ?_
    first | refine T.cond_d rfl (fun ht30 => ?_) (fun ht30 => ?_) | refine T.cond _ rfl (fun ht30 => ?_) (fun ht30 => ?_)
    · refine T.seq ?_
      refine T.region ?_
      refine TL.call hF awake_fn rfl rfl ?_
      rintro _ _ rfl
      refine TL.assign hF rfl rfl ?_
      refine TL.nil ?_
      refine TQ.then_n ?_
      refine T.ret ?_
      refine TQ.then_r ?_
      exact TQ.retsF [6] _ hb rfl rfl rfl (fun _ => rfl)
    · refine T.skip ?_
      refine TQ.then_n ?_
      refine T.seq ?_
      refine T.region ?_
      refine TL.move hF rfl rfl ?_
      refine TL.convK hF rfl (u8_wrap hm) rfl ?_
      refine TL.remN (b := 12) hF rfl rfl (by decide) rfl ?_
      refine TL.add hF rfl rfl (by omega) (by omega) rfl ?_
      obtain ⟨R, hRe⟩ : ∃ R : Nat, R = 1 + m % 12 := ⟨_, rfl⟩
      have hR12 : 0 < R ∧ R ≤ 12 := by omega
      rw [show (1 : Int) + ((m % 12 : Nat) : Int) = (R : Int) by omega]
      have hl60 : xs.length ≤ 60 := by have h : ¬ (60 : Int) < (xs.length : Int) := g1_26; omega
      have hl5 : ys.length ≤ 5 := by have h : ¬ (5 : Int) < (ys.length : Int) := ht30; omega
      refine TL.assign hF rfl rfl ?_
      refine TL.nil ?_
      refine TQ.then_n ?_
      refine T.seq ?_
      refine T.region ?_
      refine TL.move hF rfl rfl ?_
      refine TL.move hF rfl rfl ?_
      refine TL.call hF (loose_fn hx hl60 hfc hxs hR12.1 (by omega)) rfl rfl ?_
      rintro _ _ ⟨pa, pc, s1, rs, rfl, rfl, hr, hkey⟩
      have hmo := made_ok hkey hR12.1 (by omega) hl60
      refine TL.freeze s1 rfl (fun S1 w1 hz1 => ?_)
      have hb := hb.frz hz1
      have hr := hr.frz hz1
      have hy := hy.old hz1
      refine TL.assign hF rfl rfl ?_
      refine TL.nil ?_
      refine TQ.then_n ?_
      refine T.seq ?_
      refine T.region ?_
      refine TL.move hF rfl rfl ?_
      refine TL.move hF rfl rfl ?_
      refine TL.call hF (direct_fn (R := R) hr (by have := hmo.len; omega) hmo.bl63 (by omega) hmo.rg) rfl rfl ?_
      rintro _ _ ⟨ta, tc, na, nc, s2, rfl, rfl, hT, hN⟩
      refine TL.freeze s2 rfl (fun S2 w2 hz2 => ?_)
      have hb := hb.frz hz2
      have hr := hr.old hz2
      have hy := hy.old hz2
      have hT := hT.frz hz2
      refine TL.move hF rfl rfl ?_
      refine TL.extract hF rfl rfl rfl ?_
      refine TL.extract hF rfl rfl rfl ?_
      refine TL.assign hF rfl rfl ?_
      refine TL.assign hF rfl rfl ?_
      refine TL.nil ?_
      refine TQ.then_n ?_
      refine T.seq ?_
      refine T.region ?_
      refine TL.assign hF rfl rfl ?_
      refine TL.nil ?_
      refine TQ.then_n ?_
      refine T.seq ?_
      refine T.seq ?_
      refine T.region ?_
      refine TL.move hF rfl rfl ?_
      refine TL.len hF rfl rfl ?_
      refine TL.move hF rfl rfl ?_
      refine TL.nil ?_
      refine TQ.then_n ?_
      refine T.block ?_
      refine T.hnil ?_
      refine T.loop (ι := Nat × Option Addr × Nat × Seg) (fun i => i.1 ≤ ys.length ∧ OSl 3 1 (.slice i.2.1 ((ys.take i.1).map (· % R)).length i.2.2.1) ((ys.take i.1).map (· % R)).length (nats ((ys.take i.1).map (· % R))) i.2.2.2) (fun i => [(0, .int .u8 (m : Int)), (7, .int .i64 (R : Int)), (8, .slice pa rs.length pc), (9, .slice ta R tc), (11, .slice i.2.1 ((ys.take i.1).map (· % R)).length i.2.2.1), (45, .slice ga ys.length gc), (46, .int .i64 (ys.length : Int)), (47, .int .i64 (i.1 : Int))]) (fun i => i.2.2.2 :: []) (fun i => ys.length - i.1) (0, none, 0, []) ⟨Nat.zero_le _, OSl.nil 3 1⟩ ⟨rfl, rfl, rfl, rfl, rfl, rfl, rfl, rfl, trivial⟩ rfl ?_
      rintro ⟨k, oa, oc, og⟩ ⟨hk, ho⟩
      simp only at hk ho
      refine T.seq ?_
      refine T.region ?_
      refine TL.bin hF rfl rfl rfl rfl ?_
      refine TL.nil ?_
      refine TQ.then_n ?_
      refine T.seq ?_
      first | refine T.cond_d rfl (fun ht48 => ?_) (fun ht48 => ?_) | refine T.cond _ rfl (fun ht48 => ?_) (fun ht48 => ?_)
      · refine T.skip ?_
        refine TQ.then_n ?_
        refine T.seq ?_
        refine T.block ?_
        refine T.seq ?_
        refine T.region ?_
        have hkl : k < ys.length := by have h : (k : Int) < ys.length := ht48; omega
        have hn8 : ys[k] < 256 := hys _ (List.getElem_mem _)
        refine TL.indexAddr hF rfl rfl (hy.ad (by simp; omega)) (by omega) (by omega) rfl ?_
        refine TL.load hF rfl (At.up (by rw [Nat.mul_one]; exact hy.cell k (.int .u8 (ys[k] : Int)) (by simp [hkl])) (by simp)) rfl ?_
        refine TL.assign hF rfl rfl ?_
        refine TL.nil ?_
        refine TQ.then_n ?_
        refine T.region ?_
        refine TL.move hF rfl rfl ?_
        refine TL.move hF rfl rfl ?_
        refine TL.convK hF rfl (u8_wrap hn8) rfl ?_
        refine TL.move hF rfl rfl ?_
        refine TL.remN hF rfl rfl hR12.1 rfl ?_
        refine TL.buildSlice hF rfl (cs := #[.int .i64 ((ys[k] % R : Nat) : Int)]) (e := 3) (fun w => by kernel_rfl) rfl (fun b56 => ?_)
        refine TL.append hF 1 rfl rfl rfl ho (row_own (cs := nats [ys[k] % R]) (e := 3) (by simp [nats])).src rfl rfl (by simp [nats, Value.oneCell']) (by simp; omega) (by simp; omega) rfl (fun a' cap' seg' ho' => ?_)
        refine TL.assign hF rfl rfl ?_
        refine TL.nil ?_
        refine TQ.block_n ?_
        refine TQ.then_n ?_
        refine T.region ?_
        refine TL.add hF rfl rfl (by omega) (by omega) rfl ?_
        refine TL.move hF rfl rfl ?_
        refine TL.nil ?_
        have e1 : ((ys.take (k + 1)).map (· % R)).length = ((ys.take k).map (· % R)).length + 1 := by rw [changed_take hkl]; simp
        refine TQ.pop ?_
        refine TQ.round (k + 1, a', cap', seg') ⟨by simp only; omega, ?_⟩ (by simp only; omega) ⟨rfl, rfl, rfl, rfl, congrArg (fun z => some (Value.slice a' z cap')) e1.symm, rfl, rfl, rfl, trivial⟩ rfl
        simp only
        rw [e1, changed_take hkl, nats, List.map_append]
        exact ho'
      · refine T.exit ?_
        refine TQ.then_x ?_
        refine TQ.then_x ?_
        refine TQ.block_x ?_
        refine TQ.then_n ?_
        refine T.seq ?_
        refine T.region ?_
        refine TL.move hF rfl rfl ?_
        refine TL.move hF rfl rfl ?_
        refine TL.move hF rfl rfl ?_
        have hkl : k = ys.length := by have h : ¬ (k : Int) < ys.length := ht48; omega
        subst hkl
        refine TL.freeze [og] rfl (fun S3 w3 hz3 => ?_)
        have hb := hb.frz hz3
        have hr := hr.old hz3
        have hT := hT.old hz3
        have hC := (ho.row (η := [og]) List.mem_cons_self).frz hz3
        rw [List.take_length] at hC
        have hCl : (ys.map (· % R)).length = ys.length := by simp
        have hCR : ∀ x ∈ (ys.map (· % R)), x < R := fun x hx => by obtain ⟨y, _, rfl⟩ := List.mem_map.1 hx; exact Nat.mod_lt _ hR12.1
        have hC2 : Row S3 w3 [] oa (ints (casts (ys.map (· % R)))) := by unfold casts; rw [← nats_ints]; exact hC
        have hrc : reachS R rs (casts (ys.map (· % R))) = ((List.range R).filter (hits (fwM (EU rs) R) (ys.map (· % R))), 0) := by
          unfold reachS
          rw [if_neg (by rw [hmo.ck]; simp), if_neg, Int.toNat_natCast, casts_mod]
          rw [Bool.not_eq_false]
          refine inAll_iff.2 fun x hx => ?_
          obtain ⟨y, hy2, rfl⟩ := List.mem_map.1 hx
          have := hCR y hy2
          simp [inR]; omega
        have hcl2 : ((ys.take ys.length).map (· % R)).length = (casts (ys.map (· % R))).length := by simp [casts]
        rw [hcl2]
        have hcall := Reach_prog (η := []) (c := pc) (fc := oc) R hr (by have := hmo.len; omega) hmo.bl63 hC2 (by simp [casts]; omega)
        rw [hrc] at hcall
        obtain ⟨ls, hls⟩ : ∃ ls, ls = (List.range R).filter (hits (fwM (EU rs) R) (ys.map (· % R))) := ⟨_, rfl⟩
        rw [← hls] at hcall
        refine TL.call hF hcall rfl rfl ?_
        rintro _ _ ⟨la, lc, s4, rfl, rfl, hL⟩
        refine TL.freeze s4 rfl (fun S4 w4 hz4 => ?_)
        have hb := hb.frz hz4
        have hT := hT.old hz4
        have hC := hC.old hz4
        have hL := hL.frz hz4
        have hcl3 : (casts (ys.map (· % R))).length = (ys.map (· % R)).length := by simp [casts]
        rw [hcl3]
        refine TL.move hF rfl rfl ?_
        refine TL.extract hF rfl rfl rfl ?_
        refine TL.extract hF rfl rfl rfl ?_
        refine TL.assign hF rfl rfl ?_
        refine TL.assign hF rfl rfl ?_
        refine TL.nil ?_
        refine TQ.then_n ?_
        refine T.seq ?_
        refine T.seq ?_
        refine T.region ?_
        refine TL.move hF rfl rfl ?_
        refine TL.bin hF rfl rfl rfl rfl ?_
        refine TL.nil ?_
        refine TQ.then_n ?_
        refine T.cond_f rfl rfl ?_
        refine T.skip ?_
        refine TQ.then_n ?_
        refine T.cut (ι := Nat × Option Addr × Nat × Seg) (fun i => OSx 3 1 (.slice i.2.1 (ys.map (· % R)).length i.2.2.1) (ys.map (· % R)).length (nats (ys.map (· % R))) i.2.2.2) (fun i => [(7, .int .i64 (R : Int)), (9, .slice ta R tc), (14, .slice la ls.length lc), (16, .slice (some ⟨i.1, 0, none⟩) R R), (17, .slice i.2.1 (ys.map (· % R)).length i.2.2.1)]) (fun i => [(i.1, .cells (rowC R fun _ => false).toArray 4 (0, 0))] :: i.2.2.2 :: []) ?_ ?_
        · refine T.drawH 5 mixed ?_
          refine DH.pure (i := 0) [(7, _, none)] rfl rfl rfl rfl ⟨⟨rfl, by kernel_rfl⟩, trivial⟩ (fun _ ext => TL.move hF rfl rfl TL.fin) ?_
          refine DH.pure (i := 3) [(11, _, none)] rfl rfl rfl rfl ⟨⟨rfl, by kernel_rfl⟩, trivial⟩ (fun _ ext => TL.move hF rfl rfl TL.fin) ?_
          refine DH.heavy2 (h1 := 1) (h2 := 2) (by kernel_rfl) (by kernel_rfl) (by kernel_rfl) (by kernel_rfl) ⟨_, _, [(68, _, some 0)], rfl, rfl, rfl, rfl, ⟨⟨rfl, rfl, rfl⟩, trivial⟩, by kernel_rfl, fun ext => ?_⟩ ⟨_, _, [], rfl, rfl, rfl, rfl, trivial, by kernel_rfl, fun ext => ?_⟩
          · refine TL.makeSlice hF (k := R) rfl rfl rfl (by omega) (by omega) rfl (fun b69 => ?_)
            refine TL.finD ?_
            refine DH.heavy 2 [] (by kernel_rfl) (by kernel_rfl) (by kernel_rfl) (by kernel_rfl) rfl rfl rfl rfl trivial (by kernel_rfl) (fun ext => ?_)
            refine TL.buildSlice hF rfl (cs := #[]) (e := 3) (fun w => by kernel_rfl) rfl (fun b70 => ?_)
            refine TL.finD ?_
            refine DH.heavy 4 [(70, _, some 2), (71, _, some 3)] (by kernel_rfl) (by kernel_rfl) (by kernel_rfl) (by kernel_rfl) rfl rfl rfl rfl ⟨⟨rfl, rfl, rfl⟩, ⟨rfl, rfl, rfl⟩, trivial⟩ (by kernel_rfl) (fun ext => ?_)
            have hon : OSl 3 1 (.slice (some ⟨b70, 0, none⟩) 0 0) 0 [] [(b70, .cells #[] 3 (0, 0))] := ⟨rfl, .inr ⟨b70, 0, _, rfl, rfl, Nat.le_refl _, rfl, rfl⟩⟩
            first | refine TL.append hF 0 rfl rfl rfl hon hC.ro.src rfl (by simp [nats]) (nats1 _) (by simp; omega) (by simp; omega) rfl (fun a' cap' seg' ho' => ?_) | refine TL.append hF 1 rfl rfl rfl hon hC.ro.src rfl (by simp [nats]) (nats1 _) (by simp [casts]; omega) (by simp [casts]; omega) rfl (fun a' cap' seg' ho' => ?_)
            refine TL.finD ?_
            refine DH.done [(72, _), (70, _), (69, _), (71, _), (68, _)] [_, _] (by kernel_rfl) (by kernel_rfl) (by kernel_rfl) (by kernel_rfl) rfl rfl ?_
            refine TL.assign hF rfl rfl ?_
            refine TL.assign hF rfl rfl ?_
            refine TL.nil ?_
            rw [List.nil_append] at ho'
            rw [Nat.zero_add] at ho'
            first
              | refine TQ.pick [0, 1] [_, _] rfl rfl (η' := [(b69, .cells (List.replicate R (.bool false)).toArray 4 (0, 0))] :: seg' :: []) rfl ?_
              | refine TQ.pick [1, 0] [_, _] rfl rfl (η' := [(b69, .cells (List.replicate R (.bool false)).toArray 4 (0, 0))] :: seg' :: []) rfl ?_
            rw [rowC_false]
            refine TQ.cut (b69, a', cap', seg') ?_ ⟨rfl, rfl, rfl, rfl, by rw [Nat.zero_add]; rfl, trivial⟩ rfl
            exact OSl.x ho'
          · refine TL.buildSlice hF rfl (cs := #[]) (e := 3) (fun w => by kernel_rfl) rfl (fun b70 => ?_)
            refine TL.finD ?_
            refine DH.heavy2 (h1 := 1) (h2 := 4) (by kernel_rfl) (by kernel_rfl) (by kernel_rfl) (by kernel_rfl) ⟨_, _, [(68, _, some 0)], rfl, rfl, rfl, rfl, ⟨⟨rfl, rfl, rfl⟩, trivial⟩, by kernel_rfl, fun ext => ?_⟩ ⟨_, _, [(70, _, some 2), (71, _, some 3)], rfl, rfl, rfl, rfl, ⟨⟨rfl, rfl, rfl⟩, ⟨rfl, rfl, rfl⟩, trivial⟩, by kernel_rfl, fun ext => ?_⟩
            · refine TL.makeSlice hF (k := R) rfl rfl rfl (by omega) (by omega) rfl (fun b69 => ?_)
              refine TL.finD ?_
              refine DH.heavy 4 [(70, _, some 2), (71, _, some 3)] (by kernel_rfl) (by kernel_rfl) (by kernel_rfl) (by kernel_rfl) rfl rfl rfl rfl ⟨⟨rfl, rfl, rfl⟩, ⟨rfl, rfl, rfl⟩, trivial⟩ (by kernel_rfl) (fun ext => ?_)
              have hon : OSl 3 1 (.slice (some ⟨b70, 0, none⟩) 0 0) 0 [] [(b70, .cells #[] 3 (0, 0))] := ⟨rfl, .inr ⟨b70, 0, _, rfl, rfl, Nat.le_refl _, rfl, rfl⟩⟩
              first | refine TL.append hF 0 rfl rfl rfl hon hC.ro.src rfl (by simp [nats]) (nats1 _) (by simp; omega) (by simp [casts]; omega) rfl (fun a' cap' seg' ho' => ?_) | refine TL.append hF 1 rfl rfl rfl hon hC.ro.src rfl (by simp [nats]) (nats1 _) (by simp; omega) (by simp; omega) rfl (fun a' cap' seg' ho' => ?_)
              refine TL.finD ?_
              refine DH.done [(72, _), (69, _), (70, _), (71, _), (68, _)] [_, _] (by kernel_rfl) (by kernel_rfl) (by kernel_rfl) (by kernel_rfl) rfl rfl ?_
              refine TL.assign hF rfl rfl ?_
              refine TL.assign hF rfl rfl ?_
              refine TL.nil ?_
              rw [List.nil_append] at ho'
              rw [Nat.zero_add] at ho'
              first
                | refine TQ.pick [0, 1] [_, _] rfl rfl (η' := [(b69, .cells (List.replicate R (.bool false)).toArray 4 (0, 0))] :: seg' :: []) rfl ?_
                | refine TQ.pick [1, 0] [_, _] rfl rfl (η' := [(b69, .cells (List.replicate R (.bool false)).toArray 4 (0, 0))] :: seg' :: []) rfl ?_
              rw [rowC_false]
              refine TQ.cut (b69, a', cap', seg') ?_ ⟨rfl, rfl, rfl, rfl, by rw [Nat.zero_add]; rfl, trivial⟩ rfl
              exact OSl.x ho'
            · have hon : OSl 3 1 (.slice (some ⟨b70, 0, none⟩) 0 0) 0 [] [(b70, .cells #[] 3 (0, 0))] := ⟨rfl, .inr ⟨b70, 0, _, rfl, rfl, Nat.le_refl _, rfl, rfl⟩⟩
              first | refine TL.append hF 0 rfl rfl rfl hon hC.ro.src rfl (by simp [nats]) (nats1 _) (by simp; omega) (by simp; omega) rfl (fun a' cap' seg' ho' => ?_) | refine TL.append hF 1 rfl rfl rfl hon hC.ro.src rfl (by simp [nats]) (nats1 _) (by simp [casts]; omega) (by simp [casts]; omega) rfl (fun a' cap' seg' ho' => ?_)
              refine TL.finD ?_
              refine DH.heavy 1 [(68, _, some 0)] (by kernel_rfl) (by kernel_rfl) (by kernel_rfl) (by kernel_rfl) rfl rfl rfl rfl ⟨⟨rfl, rfl, rfl⟩, trivial⟩ (by kernel_rfl) (fun ext => ?_)
              refine TL.makeSlice hF (k := R) rfl rfl rfl (by omega) (by omega) rfl (fun b69 => ?_)
              refine TL.finD ?_
              refine DH.done [(69, _), (72, _), (70, _), (71, _), (68, _)] [_, _] (by kernel_rfl) (by kernel_rfl) (by kernel_rfl) (by kernel_rfl) rfl rfl ?_
              refine TL.assign hF rfl rfl ?_
              refine TL.assign hF rfl rfl ?_
              refine TL.nil ?_
              rw [List.nil_append] at ho'
              rw [Nat.zero_add] at ho'
              first
                | refine TQ.pick [0, 1] [_, _] rfl rfl (η' := [(b69, .cells (List.replicate R (.bool false)).toArray 4 (0, 0))] :: seg' :: []) rfl ?_
                | refine TQ.pick [1, 0] [_, _] rfl rfl (η' := [(b69, .cells (List.replicate R (.bool false)).toArray 4 (0, 0))] :: seg' :: []) rfl ?_
              rw [rowC_false]
              refine TQ.cut (b69, a', cap', seg') ?_ ⟨rfl, rfl, rfl, rfl, by rw [Nat.zero_add]; rfl, trivial⟩ rfl
              exact OSl.x ho'
        · rintro ⟨b69, qa0, qc0, qg0⟩ hq0
          simp only at hq0
          refine T.seq ?_
          refine T.block ?_
          refine T.loop (ι := (Nat → Bool) × List Nat × Option Addr × Nat × Seg) (fun i => RSeek (EU rs) R (ys.map (· % R)) i.1 i.2.1 ∧ i.2.1.length + (R + 1) * unm R i.1 ≤ 1000 ∧ OSx 3 1 (.slice i.2.2.1 i.2.1.length i.2.2.2.1) i.2.1.length (nats i.2.1) i.2.2.2.2) (fun i => [(7, .int .i64 (R : Int)), (9, .slice ta R tc), (14, .slice la ls.length lc), (16, .slice (some ⟨b69, 0, none⟩) R R), (17, .slice i.2.2.1 i.2.1.length i.2.2.2.1)]) (fun i => [(b69, .cells (rowC R i.1).toArray 4 (0, 0))] :: i.2.2.2.2 :: []) (fun i => i.2.1.length + (R + 1) * unm R i.1) ((fun _ => false), (ys.map (· % R)), qa0, qc0, qg0) ⟨RSeek.start hCR, ?_, hq0⟩ ⟨rfl, rfl, rfl, rfl, rfl, trivial⟩ rfl ?_
          · have h1 : (R + 1) * unm R (fun _ => false) ≤ 13 * 12 := Nat.mul_le_mul (by omega) (by rw [unm_all]; omega)
            simp only [hCl]; omega
          rintro ⟨A, q, qa, qc, qg⟩ ⟨hsk, hmu, ho⟩
          simp only at hsk hmu ho
          refine T.seq ?_
          refine T.seq ?_
          refine T.region ?_
          refine TL.move hF rfl rfl ?_
          refine TL.len hF rfl rfl ?_
          refine TL.bin hF rfl rfl rfl rfl ?_
          refine TL.nil ?_
          refine TQ.then_n ?_
          first | refine T.cond_d rfl (fun ht75 => ?_) (fun ht75 => ?_) | refine T.cond _ rfl (fun ht75 => ?_) (fun ht75 => ?_)
          · refine T.skip ?_
            refine TQ.then_n ?_
            refine T.block ?_
            refine T.seq ?_
            refine T.region ?_
            refine TL.move hF rfl rfl ?_
            obtain ⟨x, q1, rfl⟩ : ∃ x q1, q = x :: q1 := by
              cases q with
              | nil => simp at ht75
              | cons x q1 => exact ⟨x, q1, rfl⟩
            have hxR := hsk.qlt x List.mem_cons_self
            have hrow : Row S4 w4 ([(b69, .cells (rowC R A).toArray 4 (0, 0))] :: qg :: []) qa (nats (x :: q1)) := ho.row (by simp)
            refine TL.indexAddr hF rfl rfl (hrow.nad (i := 0) (by simp)) (by omega) (by simp) rfl ?_
            refine TL.load hF rfl (v := .int .i64 (x : Int)) (hrow.nat (i := 0) (by simp)) rfl ?_
            refine TL.assign hF rfl rfl ?_
            refine TL.nil ?_
            refine TQ.then_n ?_
            refine T.seq ?_
            refine T.region ?_
            refine TL.move hF rfl rfl ?_
            refine TL.slice hF (i := 1) (j := (x :: q1).length) rfl rfl rfl (by simp) (by have h2 := ho.2; rcases h2 with ⟨h2, _⟩ | ⟨_, _, _, _, h2, _, h3, _⟩ <;> first | (cases h2; exact h3) | cases h2) rfl ?_
            refine TL.assign hF rfl rfl ?_
            refine TL.nil ?_
            refine TQ.then_n ?_
            refine T.seq ?_
            refine T.seq ?_
            refine T.region ?_
            refine TL.move hF rfl rfl ?_
            refine TL.move hF rfl rfl ?_
            refine TL.indexAddr hF rfl rfl ⟨_, rfl, rfl⟩ (by omega) (by omega) rfl ?_
            refine TL.load hF rfl (by rw [Int.toNat_natCast, Nat.mul_one]; exact (row_own (e := 4) List.mem_cons_self).cell x (.bool (A x)) (rowC_get hxR)) rfl ?_
            refine TL.nil ?_
            refine TQ.then_n ?_
            have hc := ho.cut (k := 1) (by simp)
            have e1 : (x :: q1).length - 1 = q1.length := by simp
            rw [e1] at hc
            refine T.cond _ rfl (fun ht84 => ?_) (fun ht84 => ?_)
            · refine T.exit ?_
              refine TQ.then_x ?_
              refine TQ.block_x ?_
              refine TQ.round (A, q1, _, _, qg) ⟨hsk.skip ht84, by simp only [List.length_cons] at hmu; simp only; omega, hc⟩ (by simp only [List.length_cons]; omega) ⟨rfl, rfl, rfl, rfl, congrArg (fun z => some (Value.slice _ z _)) e1, trivial⟩ rfl
            · refine T.skip ?_
              refine TQ.then_n ?_
              refine T.seq ?_
              refine T.region ?_
              refine TL.move hF rfl rfl ?_
              refine TL.move hF rfl rfl ?_
              refine TL.indexAddr hF rfl rfl ⟨_, rfl, rfl⟩ (by omega) (by omega) rfl ?_
              refine TL.storeI hF 0 rfl rfl rfl rfl (by simp [rowC_len]; omega) ?_
              refine TL.nil ?_
              refine TQ.then_n ?_
              refine T.seq ?_
              refine T.region ?_
              refine TL.move hF rfl rfl ?_
              refine TL.len hF rfl rfl ?_
              refine TL.move hF rfl rfl ?_
              refine TL.nil ?_
              refine TQ.then_n ?_
              refine T.block ?_
              refine T.loop (ι := Nat × Option Addr × Nat × Seg) (fun i => i.1 ≤ R ∧ OSx 3 1 (.slice i.2.1 (q1 ++ (List.range i.1).filter fun b => EU rs b x).length i.2.2.1) (q1 ++ (List.range i.1).filter fun b => EU rs b x).length (nats (q1 ++ (List.range i.1).filter fun b => EU rs b x)) i.2.2.2) (fun i => [(7, .int .i64 (R : Int)), (9, .slice ta R tc), (14, .slice la ls.length lc), (16, .slice (some ⟨b69, 0, none⟩) R R), (18, .int .i64 (x : Int)), (17, .slice i.2.1 (q1 ++ (List.range i.1).filter fun b => EU rs b x).length i.2.2.1), (89, .int .i64 (R : Int)), (90, .int .i64 (i.1 : Int))]) (fun i => [(b69, .cells (rowC R (markA A x)).toArray 4 (0, 0))] :: i.2.2.2 :: []) (fun i => R - i.1) (0, _, _, qg) ⟨Nat.zero_le _, by simp only [List.range_zero, List.filter_nil, List.append_nil]; exact hc⟩ ⟨rfl, rfl, rfl, rfl, rfl, congrArg (fun z => some (Value.slice _ z _)) (by simp), rfl, rfl, trivial⟩ ?_ ?_
              · show [(b69, Obj.cells ((rowC R A).toArray.setIfInBounds (0 + (x : Int).toNat * 1) (.bool true)) 4 (0, 0))] :: qg :: [] = _
                rw [rowC_set (g := markA A x) (fun i hi => by simp [markA])]
              rintro ⟨j, va, vc, vg⟩ ⟨hj, hvo⟩
              simp only at hj hvo
              have hvl : (q1 ++ (List.range j).filter fun b => EU rs b x).length ≤ q1.length + j := by have := users_len (E := EU rs) (x := x) (k := j); simp only [List.length_append]; omega
              simp only [List.length_cons] at hmu
              refine T.seq ?_
              refine T.region ?_
              refine TL.bin hF rfl rfl rfl rfl ?_
              refine TL.nil ?_
              refine TQ.then_n ?_
              refine T.seq ?_
              first | refine T.cond_d rfl (fun ht91 => ?_) (fun ht91 => ?_) | refine T.cond _ rfl (fun ht91 => ?_) (fun ht91 => ?_)
              · refine T.skip ?_
                refine TQ.then_n ?_
                refine T.seq ?_
                refine T.block ?_
                refine T.seq ?_
                refine T.region ?_
                refine TL.move hF rfl rfl ?_
                refine TL.assign hF rfl rfl ?_
                refine TL.nil ?_
                refine TQ.then_n ?_
                refine T.seq ?_
                refine T.region ?_
                refine TL.move hF rfl rfl ?_
                refine TL.move hF rfl rfl ?_
                have hjR : j < R := by have h : (j : Int) < R := ht91; omega
                obtain ⟨tf, htf⟩ := hT
                obtain ⟨htad, htv, htr⟩ := htf j hjR
                refine TL.indexAddr hF rfl rfl htad (by omega) (by omega) rfl ?_
                refine TL.load hF rfl (htv.up (by simp)) rfl ?_
                refine TL.move hF rfl rfl ?_
                refine TL.indexAddr hF rfl rfl (htr.ad (by simp [rowC_len]; omega)) (by omega) (by omega) rfl ?_
                refine TL.load hF rfl (by rw [Int.toNat_natCast, Nat.mul_one]; exact (htr.cell x _ (rowC_get hxR)).up (by simp)) rfl ?_
                refine TL.nil ?_
                refine TQ.then_n ?_
                refine T.cond _ rfl (fun ht99 => ?_) (fun ht99 => ?_)
                · refine T.region ?_
                  refine TL.move hF rfl rfl ?_
                  refine TL.move hF rfl rfl ?_
                  refine TL.buildSlice hF rfl (cs := #[.int .i64 (j : Int)]) (e := 3) (fun w => by kernel_rfl) rfl (fun b102 => ?_)
                  refine TL.appendX hF 2 rfl rfl rfl hvo (row_own (cs := nats [j]) (e := 3) (by simp [nats])).src rfl rfl (by simp [nats, Value.oneCell']) (by omega) (by omega) rfl (fun a' cap' seg' ho' => ?_)
                  refine TL.assign hF rfl rfl ?_
                  refine TL.nil ?_
                  refine TQ.block_n ?_
                  refine TQ.then_n ?_
                  refine T.region ?_
                  refine TL.add hF rfl rfl (by omega) (by omega) rfl ?_
                  refine TL.move hF rfl rfl ?_
                  refine TL.nil ?_
                  have e2 : (q1 ++ (List.range (j + 1)).filter fun b => EU rs b x) = (q1 ++ (List.range j).filter fun b => EU rs b x) ++ [j] := by rw [users_succ ht99, List.append_assoc]
                  have e3 : (q1 ++ (List.range (j + 1)).filter fun b => EU rs b x).length = (q1 ++ (List.range j).filter fun b => EU rs b x).length + 1 := by rw [e2, List.length_append]; rfl
                  refine TQ.pop ?_
                  refine TQ.round (j + 1, a', cap', seg') ⟨by simp only; omega, ?_⟩ (by simp only; omega) ⟨rfl, rfl, rfl, rfl, rfl, congrArg (fun z => some (Value.slice a' z cap')) e3.symm, rfl, rfl, trivial⟩ rfl
                  simp only
                  rw [e3, e2, nats, List.map_append]
                  exact ho'
                · refine T.skip ?_
                  refine TQ.block_n ?_
                  refine TQ.then_n ?_
                  refine T.region ?_
                  refine TL.add hF rfl rfl (by omega) (by omega) rfl ?_
                  refine TL.move hF rfl rfl ?_
                  refine TL.nil ?_
                  have e2 : (q1 ++ (List.range (j + 1)).filter fun b => EU rs b x) = (q1 ++ (List.range j).filter fun b => EU rs b x) := by rw [users_skip (by simp [ht99])]
                  exact TQ.round (j + 1, va, vc, vg) ⟨by simp only; omega, by simp only; rw [e2]; exact hvo⟩ (by simp only; omega) ⟨rfl, rfl, rfl, rfl, rfl, congrArg (fun z : List Nat => some (Value.slice va z.length vc)) e2.symm, rfl, rfl, trivial⟩ rfl
              · refine T.exit ?_
                refine TQ.then_x ?_
                refine TQ.then_x ?_
                refine TQ.block_x ?_
                refine TQ.block_n ?_
                have hun := unm_mark hxR ht84
                have hju : j = R := by have h : ¬ (j : Int) < R := ht91; omega
                subst hju
                have hms : (j + 1) * unm j (markA A x) + (j + 1) ≤ (j + 1) * unm j A := by rw [← Nat.mul_succ]; exact Nat.mul_le_mul_left _ hun
                have hul := users_len (E := EU rs) (x := x) (k := j)
                refine TQ.round (markA A x, q1 ++ usersS (EU rs) j x, va, vc, vg) ⟨hsk.mark hCR, ?_, hvo⟩ ?_ ⟨rfl, rfl, rfl, rfl, rfl, trivial⟩ rfl
                · simp only [List.length_append]; unfold usersS; omega
                · simp only [List.length_append, List.length_cons]; unfold usersS; omega
          · refine T.exit ?_
            refine TQ.then_x ?_
            refine TQ.then_x ?_
            refine TQ.block_x ?_
            refine TQ.then_n ?_
            refine T.seq ?_
            refine T.region ?_
            refine TL.assign hF rfl rfl ?_
            refine TL.nil ?_
            refine TQ.then_n ?_
            refine T.seq ?_
            refine T.seq ?_
            refine T.region ?_
            refine TL.move hF rfl rfl ?_
            refine TL.len hF rfl rfl ?_
            refine TL.move hF rfl rfl ?_
            refine TL.nil ?_
            refine TQ.then_n ?_
            refine T.block ?_
            have hq0 : q = [] := by
              cases q with
              | nil => rfl
              | cons x q1 => exfalso; simp at ht75
            subst hq0
            have hfin := hsk.fin hCR
            have hcn : ∀ n, n ≤ R → (List.range n).filter A = (List.range n).filter (hits (fwM (EU rs) R) (ys.map (· % R))) := fun n hn => List.filter_congr fun x hx => hfin x (by have := List.mem_range.1 hx; omega)
            refine T.loop (ι := Nat) (fun k => k ≤ R) (fun k => [(7, .int .i64 (R : Int)), (9, .slice ta R tc), (14, .slice la ls.length lc), (16, .slice (some ⟨b69, 0, none⟩) R R), (20, .int .i64 (((List.range k).filter (hits (fwM (EU rs) R) (ys.map (· % R)))).length : Int)), (105, .slice (some ⟨b69, 0, none⟩) R R), (106, .int .i64 (R : Int)), (107, .int .i64 (k : Int))]) (fun _ => [(b69, .cells (rowC R A).toArray 4 (0, 0))] :: qg :: []) (fun k => R - k) 0 (Nat.zero_le _) ⟨rfl, rfl, rfl, rfl, rfl, rfl, rfl, rfl, trivial⟩ rfl ?_
            rintro v hv
            have hvl : ((List.range v).filter (hits (fwM (EU rs) R) (ys.map (· % R)))).length ≤ v := by have := List.length_filter_le (hits (fwM (EU rs) R) (ys.map (· % R))) (List.range v); simpa using this
            refine T.seq ?_
            refine T.region ?_
            refine TL.bin hF rfl rfl rfl rfl ?_
            refine TL.nil ?_
            refine TQ.then_n ?_
            refine T.seq ?_
            first | refine T.cond_d rfl (fun ht108 => ?_) (fun ht108 => ?_) | refine T.cond _ rfl (fun ht108 => ?_) (fun ht108 => ?_)
            · refine T.skip ?_
              refine TQ.then_n ?_
              refine T.seq ?_
              refine T.block ?_
              refine T.seq ?_
              refine T.region ?_
              refine TL.move hF rfl rfl ?_
              have hvR : v < R := by have h : (v : Int) < R := ht108; omega
              refine TL.indexAddr hF rfl rfl ⟨_, rfl, rfl⟩ (by omega) (by omega) rfl ?_
              refine TL.load hF rfl (by rw [Int.toNat_natCast, Nat.mul_one]; exact (row_own (e := 4) List.mem_cons_self).cell v (.bool (A v)) (rowC_get hvR)) rfl ?_
              refine TL.assign hF rfl rfl ?_
              refine TL.assign hF rfl rfl ?_
              refine TL.nil ?_
              refine TQ.then_n ?_
              refine T.seq ?_
              refine T.seq ?_
              refine T.region ?_
              refine TL.move hF rfl rfl ?_
              refine TL.move hF rfl rfl ?_
              refine TL.gb (t := 113) rfl (fun g31_113 => ?_) (fun g31_113 => ?_)
              · refine TL.on rfl rfl rfl g31_113 ?_
                have hht : (hits (fwM (EU rs) R) (ys.map (· % R))) v = true := by rw [← hfin v hvR]; exact g31_113
                have hget : ls[((List.range v).filter (hits (fwM (EU rs) R) (ys.map (· % R)))).length]? = some v := by rw [hls]; exact filter_get hvR hht
                have hcnt := (List.getElem?_eq_some_iff.1 hget).1
                refine TL.move hF rfl rfl ?_
                refine TL.on rfl rfl rfl g31_113 ?_
                refine TL.move hF rfl rfl ?_
                refine TL.on rfl rfl rfl g31_113 ?_
                refine TL.len hF rfl rfl ?_
                refine TL.on rfl rfl rfl g31_113 ?_
                refine TL.bin hF rfl rfl rfl rfl ?_
                refine TL.on rfl rfl rfl g31_113 ?_
                refine TL.move hF rfl rfl ?_
                refine TL.on rfl rfl rfl (decide_eq_false (by omega)) ?_
                refine TL.move hF rfl rfl ?_
                refine TL.on rfl rfl rfl (decide_eq_false (by omega)) ?_
                refine TL.move hF rfl rfl ?_
                refine TL.on rfl rfl rfl (decide_eq_false (by omega)) ?_
                refine TL.indexAddr hF rfl rfl (hL.nad hcnt) (by omega) (by omega) rfl ?_
                refine TL.on rfl rfl rfl (decide_eq_false (by omega)) ?_
                refine TL.load hF rfl (v := .int .i64 (v : Int)) (by rw [Int.toNat_natCast, Nat.mul_one]; exact hL.ro.cell _ _ (by simp [nats, hget])) rfl ?_
                refine TL.on rfl rfl rfl (decide_eq_false (by omega)) ?_
                refine TL.move hF rfl rfl ?_
                refine TL.on rfl rfl rfl (decide_eq_false (by omega)) ?_
                refine TL.bin hF rfl rfl rfl rfl ?_
                refine TL.on rfl rfl rfl g31_113 ?_
                refine TL.pickF hF rfl (decide_eq_false (by omega)) rfl rfl ?_
                refine TL.pickT hF rfl g31_113 rfl rfl ?_
                refine TL.nil ?_
                refine TQ.then_n ?_
                refine T.cond_f rfl (by simp) ?_
                refine T.skip ?_
                refine TQ.then_n ?_
                refine T.seq ?_
                refine T.region ?_
                refine TL.move hF rfl rfl ?_
                refine TL.nil ?_
                refine TQ.then_n ?_
                refine T.cond_t rfl g31_113 ?_
                refine T.region ?_
                refine TL.move hF rfl rfl ?_
                refine TL.add hF rfl rfl (by omega) (by omega) rfl ?_
                refine TL.assign hF rfl rfl ?_
                refine TL.nil ?_
                refine TQ.block_n ?_
                refine TQ.then_n ?_
                refine T.region ?_
                refine TL.add hF rfl rfl (by omega) (by omega) rfl ?_
                refine TL.move hF rfl rfl ?_
                refine TL.nil ?_
                have e5 : ((List.range (v + 1)).filter (hits (fwM (EU rs) R) (ys.map (· % R)))).length = ((List.range v).filter (hits (fwM (EU rs) R) (ys.map (· % R)))).length + 1 := by rw [filter_succ, if_pos hht]
                exact TQ.round (v + 1) (by omega) (by omega) ⟨rfl, rfl, rfl, rfl, by rw [e5]; rfl, rfl, rfl, rfl, trivial⟩ rfl
              · refine TL.off hF rfl rfl rfl g31_113 rfl ?_
                refine TL.off hF rfl rfl rfl g31_113 rfl ?_
                refine TL.off hF rfl rfl rfl g31_113 rfl ?_
                refine TL.off hF rfl rfl rfl g31_113 rfl ?_
                refine TL.off hF rfl rfl rfl g31_113 rfl ?_
                refine TL.offU hF rfl rfl rfl rfl ?_
                refine TL.offU hF rfl rfl rfl rfl ?_
                refine TL.offU hF rfl rfl rfl rfl ?_
                refine TL.offU hF rfl rfl rfl rfl ?_
                refine TL.offU hF rfl rfl rfl rfl ?_
                refine TL.offU hF rfl rfl rfl rfl ?_
                refine TL.off hF rfl rfl rfl g31_113 rfl ?_
                refine TL.pickF hF rfl g31_113 rfl rfl ?_
                refine TL.nil ?_
                refine TQ.then_n ?_
                refine T.cond_f rfl rfl ?_
                refine T.skip ?_
                refine TQ.then_n ?_
                refine T.seq ?_
                refine T.region ?_
                refine TL.move hF rfl rfl ?_
                refine TL.nil ?_
                refine TQ.then_n ?_
                refine T.cond_f rfl g31_113 ?_
                refine T.skip ?_
                refine TQ.block_n ?_
                refine TQ.then_n ?_
                refine T.region ?_
                refine TL.add hF rfl rfl (by omega) (by omega) rfl ?_
                refine TL.move hF rfl rfl ?_
                refine TL.nil ?_
                have e5 : ((List.range (v + 1)).filter (hits (fwM (EU rs) R) (ys.map (· % R)))).length = ((List.range v).filter (hits (fwM (EU rs) R) (ys.map (· % R)))).length := by rw [filter_succ, if_neg (by rw [← hfin v hvR, g31_113]; simp)]; rfl
                exact TQ.round (v + 1) (by omega) (by omega) ⟨rfl, rfl, rfl, rfl, by rw [e5]; rfl, rfl, rfl, rfl, trivial⟩ rfl
            · refine T.exit ?_
              refine TQ.then_x ?_
              refine TQ.then_x ?_
              refine TQ.block_x ?_
              refine TQ.then_n ?_
              refine T.seq ?_
              refine T.region ?_
              refine TL.move hF rfl rfl ?_
              refine TL.move hF rfl rfl ?_
              refine TL.len hF rfl rfl ?_
              refine TL.bin hF rfl rfl rfl rfl ?_
              refine TL.move hF rfl rfl ?_
              refine TL.on rfl rfl rfl (decide_eq_true (by have h : ¬ (v : Int) < R := ht108; rw [hls, show v = R by omega])) ?_
              refine TL.call hF awake_fn rfl rfl ?_
              rintro _ _ rfl
              refine TL.pickT hF rfl (decide_eq_true (by have h : ¬ (v : Int) < R := ht108; rw [hls, show v = R by omega])) rfl rfl ?_
              refine TL.assign hF rfl rfl ?_
              refine TL.nil ?_
              refine TQ.then_n ?_
              refine T.ret ?_
              exact TQ.retsF [6] _ hb rfl rfl rfl (fun _ => rfl)
end Go.Proofs.Ytdehpaikapbckaa
/- What the law asks of levels: plain Lean. -/
namespace Go.Proofs.Ytdehpaikapbckaa
open Go.Sl
theorem orderS_lt {n : Nat} {M : Nat → Nat → Bool} : ∀ (f : Nat) (done : List Nat), ∀ l ∈ orderS n M f done, ∃ a, a < n ∧ l = blockS n M a := by
  intro f
  induction f with
  | zero => intro done l h; simp [orderS] at h
  | succ f ih =>
    intro done l h
    unfold orderS at h
    split at h
    · simp at h
    · rename_i a ha
      rcases List.mem_cons.1 h with rfl | h
      · exact ⟨a, (pickS_some ha).1, rfl⟩
      · exact ih _ l h
/-- The level of relations, when there are blocks. -/
structure LevOk (E D : Nat → Nat → Bool) (R : Nat) (ls : List (List Nat)) (L : Nat → Int) : Prop where
  lt : ∀ own ∈ ls, ∀ a ∈ own, a < R
  ne : ∀ own ∈ ls, 0 < own.length
  same : ∀ own ∈ ls, ∀ a ∈ own, ∀ b ∈ own, L a = L b
  use : ∀ a b, a < R → b < R → E a b = true → L b ≤ L a
  den : ∀ a b, a < R → b < R → D a b = true → L b < L a
  need : ∀ own ∈ ls, ∀ a ∈ own, L a = needB E D R own L own
  bd : ∀ a, 0 ≤ L a ∧ L a ≤ 48
theorem lev_ok {E D : Nat → Nat → Bool} {R : Nat} (hR : R ≤ 48) (hDE : ∀ a b, D a b = true → E a b = true) (ho : ordB R D (fwM E R) = true) : LevOk E D R (orderS R (fwM E R) R []) (levelsF E D R (orderS R (fwM E R) R [])) := by
  obtain ⟨hf, hleast⟩ := levels_least hDE ho
  obtain ⟨L, hL⟩ : ∃ L, L = levelsF E D R (orderS R (fwM E R) R []) := ⟨_, rfl⟩
  rw [← hL] at hf hleast ⊢
  have hbd : ∀ a, 0 ≤ L a ∧ L a ≤ 48 := fun a => by
    have h1 := levelsF_le (E := E) (D := D) (n := R) (orderS R (fwM E R) R []) a
    have h2 := orderS_len (n := R) (M := fwM E R) R []
    rw [hL]; omega
  have hlt : ∀ own ∈ orderS R (fwM E R) R [], ∀ a ∈ own, a < R := fun own h a ha => by
    obtain ⟨a0, _, rfl⟩ := orderS_lt _ _ own h
    exact (mem_blockS.1 ha).1
  have hway : ∀ own ∈ orderS R (fwM E R) R [], ∀ a ∈ own, ∀ b ∈ own, a = b ∨ fwM E R a b = true := fun own h a ha b hb => by
    obtain ⟨a0, h0, rfl⟩ := orderS_lt _ _ own h
    obtain ⟨h1, h2⟩ := mem_blockS.1 ha
    obtain ⟨h3, h4⟩ := mem_blockS.1 hb
    rcases h2 with rfl | ⟨h5, h6⟩
    · rcases h4 with rfl | ⟨h7, _⟩
      · exact .inl rfl
      · exact .inr h7
    · rcases h4 with rfl | ⟨h7, _⟩
      · exact .inr h6
      · exact .inr (fw_trans h0 h6 h7)
  have hsame : ∀ own ∈ orderS R (fwM E R) R [], ∀ a ∈ own, ∀ b ∈ own, L a = L b := fun own h a ha b hb => by
    have key : ∀ a ∈ own, ∀ b ∈ own, L b ≤ L a := fun a ha b hb => by
      rcases hway own h a ha b hb with rfl | h1
      · exact Int.le_refl _
      · exact hf.way (hlt own h a ha) (hlt own h b hb) h1
    exact Int.le_antisymm (key b hb a ha) (key a ha b hb)
  have hout : ∀ own ∈ orderS R (fwM E R) R [], ∀ a ∈ own, ∀ b, b < R → D a b = true → b ∉ own := fun own h a ha b hb hd hbo => by
    have h1 := ordB_iff.1 ho a b (hlt own h a ha) hb hd
    rcases hway own h b hbo a ha with h2 | h2
    · exact h1 (.inl h2.symm)
    · exact h1 (.inr h2)
  refine ⟨hlt, fun own h => ?_, hsame, hf.use, fun a b ha hb hd => by have := hf.den a b ha hb hd; omega, fun own h a ha => ?_, hbd⟩
  · obtain ⟨a0, h0, rfl⟩ := orderS_lt _ _ own h
    exact List.length_pos_of_mem (self_block h0)
  · apply Int.le_antisymm
    · have hge := needB_ge (E := E) (D := D) (n := R) (own := own) (L := L) own 0
      have hv0 : 0 ≤ needB E D R own L own := hge.1
      apply Classical.byContradiction
      intro hc
      have hfit : Fits E D R (fun x => if x ∈ own then needB E D R own L own else L x) := by
        refine ⟨fun x hx => ?_, fun x y hx hy he => ?_, fun x y hx hy hd => ?_⟩
        · show 0 ≤ if x ∈ own then _ else _
          split
          · exact hv0
          · exact (hbd x).1
        · show (if y ∈ own then _ else _) ≤ if x ∈ own then _ else _
          by_cases h1 : x ∈ own
          · by_cases h2 : y ∈ own
            · rw [if_pos h1, if_pos h2]; exact Int.le_refl _
            · rw [if_pos h1, if_neg h2]; exact (hge.2 x h1 y hy).1 h2 he
          · by_cases h2 : y ∈ own
            · rw [if_neg h1, if_pos h2]
              have h3 := hf.use x y hx hy he
              have h4 := hsame own h y h2 a ha
              omega
            · rw [if_neg h1, if_neg h2]; exact hf.use x y hx hy he
        · show (if y ∈ own then _ else _) + 1 ≤ if x ∈ own then _ else _
          by_cases h1 : x ∈ own
          · have h2 := hout own h x h1 y hy hd
            rw [if_pos h1, if_neg h2]; exact (hge.2 x h1 y hy).2 hd
          · by_cases h2 : y ∈ own
            · rw [if_neg h1, if_pos h2]
              have h3 := hf.den x y hx hy hd
              have h4 := hsame own h y h2 a ha
              omega
            · rw [if_neg h1, if_neg h2]; exact hf.den x y hx hy hd
      have h5 := hleast _ hfit a (hlt own h a ha)
      simp only [ha, if_true] at h5
      exact hc h5
    · refine needB_up own 0 (hbd a).1 fun x hx b hb => ⟨fun _ he => ?_, fun hd => ?_⟩
      · rw [hsame own h a ha x hx]; exact hf.use x b (hlt own h x hx) hb he
      · rw [hsame own h a ha x hx]; exact hf.den x b (hlt own h x hx) hb hd
theorem blocks_err {R : Nat} {rs : List RuleD} (hm : MadeOk R rs) (h : (blocksS R rs).2 ≠ 0) : blocksS R rs = ([], 10) ∧ ordB R (ED rs) (fwM (EU rs) R) = false := by
  unfold blocksS at h ⊢
  rw [if_neg (by rw [hm.ck]; simp)] at h ⊢
  rw [Int.toNat_natCast] at h ⊢
  split
  · rename_i h2; rw [if_pos h2] at h; exact absurd rfl h
  · rename_i h2; exact ⟨rfl, by simpa using h2⟩
theorem blocks_ok {R : Nat} {rs : List RuleD} (hm : MadeOk R rs) (h : (blocksS R rs).2 = 0) : blocksS R rs = (orderS R (fwM (EU rs) R) R [], 0) ∧ ordB R (ED rs) (fwM (EU rs) R) = true := by
  unfold blocksS at h ⊢
  rw [if_neg (by rw [hm.ck]; simp)] at h ⊢
  rw [Int.toNat_natCast] at h ⊢
  split
  · rename_i h2; exact ⟨rfl, h2⟩
  · rename_i h2; rw [if_neg h2] at h; simp at h
theorem levels_err {R : Nat} {rs : List RuleD} (h : (blocksS R rs).2 ≠ 0) : levelsS R rs = ([], (blocksS R rs).2) := by
  unfold levelsS; rw [if_pos h]
theorem levels_ok {R : Nat} {rs : List RuleD} (h : (blocksS R rs).2 = 0) : levelsS R rs = ((List.range R).map (levelsF (EU rs) (ED rs) R (blocksS R rs).1), 0) := by
  unfold levelsS; rw [if_neg (by rw [h]; simp), Int.toNat_natCast]
variable {S : Nat → Prop} {w0 : World} {η : Heap}
theorem OutL.at {a : Option Addr} {ls : List (List Nat)} (h : OutL S w0 η a ls) {i : Nat} (hi : i < ls.length) : (∃ ad, a = some ad ∧ ad.spot = none) ∧ ∃ b c, At S w0 η (sAt a (i * 1)) (.slice b ls[i].length c) ∧ Row S w0 η b (nats ls[i]) := by
  obtain ⟨ps, h1, h2, h3⟩ := h
  have hp : i < ps.length := by rw [h1]; simpa using hi
  have hm : i < (ls.map fun l => l.map fun (b : Nat) => (b : Int)).length := by simpa using hi
  have h4 := h3 i hp hm
  have e : (List.zipWith (fun (p : Option Addr × Nat) (l : List Int) => Value.slice p.1 l.length p.2) ps (ls.map fun l => l.map fun (b : Nat) => (b : Int)))[i]? = some (.slice ps[i].1 ls[i].length ps[i].2) := by
    rw [List.getElem?_zipWith, List.getElem?_eq_getElem hp, List.getElem?_eq_getElem hm]
    simp
  refine ⟨h2.ad (List.length_pos_of_mem (List.mem_of_getElem? e)), ps[i].1, ps[i].2, by rw [Nat.mul_one]; exact h2.cell i _ e, ?_⟩
  rw [nats_ints]
  simpa using h4
theorem WhereN_fn {a : Option Addr} {xs : List Nat} {c : Nat} (b : Nat) (hx : Row S w0 η a (nats xs)) (hl : xs.length < 2 ^ 63) :
    Rt Try.prog 22 [.slice a xs.length c, .int .i64 (b : Int)].toArray S w0 η (fun v η' => v = .int .i64 (whereA b (casts xs) 0) ∧ η' = η) := by
  have h := Where_fn (a := a) (xs := casts xs) (c := c) (b : Int) (by unfold casts; rw [← nats_ints]; exact hx) (by simpa [casts] using hl)
  simp only [casts, List.length_map] at h
  exact h
theorem where_in {xs : List Nat} {b : Nat} : 0 ≤ whereA (b : Int) (casts xs) 0 ↔ b ∈ xs := by
  rw [whereA_ge]
  unfold casts
  simp only [List.mem_map]
  exact ⟨fun ⟨a, h, e⟩ => by have : a = b := by omega
                             subst this; exact h, fun h => ⟨b, h, rfl⟩⟩
end Go.Proofs.Ytdehpaikapbckaa
/- The law of levels. -/
namespace Go.Proofs.Ytdehpaikapbckaa
open Go.Sl
variable {S : Nat → Prop} {w0 : World} {η : Heap}
set_option maxHeartbeats 2000000 in
theorem StratLevels_fn {fa : Option Addr} {xs : List Nat} {m fc : Nat} (hm : m < 256) (hx : Row S w0 [] fa (u16s xs)) (hfc : xs.length ≤ fc) (hxs : ∀ n ∈ xs, n < 65536) (hl : xs.length < 2 ^ 63) :
    Rt Try.prog 6 [.int .u8 (m : Int), .slice fa xs.length fc].toArray S w0 [] (fun v _ => v = .bool true) := by
  have hF := open_wide
  refine Rt.of (fn := Try.f6) Try.func6 rfl rfl ?_
  refine T.seq ?_
  refine T.region ?_
  refine TL.assign hF rfl rfl ?_
  refine TL.nil ?_
  refine TQ.then_n ?_
  refine T.seq ?_
  refine T.seq ?_
  refine T.region ?_
  have hb := Back.refl S w0
  refine TL.move hF rfl rfl ?_
  refine TL.len hF rfl rfl ?_
  refine TL.bin hF rfl rfl rfl rfl ?_
  refine TL.nil ?_
  refine TQ.then_n ?_
  first | refine T.cond_d rfl (fun ht21 => ?_) (fun ht21 => ?_) | refine T.cond _ rfl (fun ht21 => ?_) (fun ht21 => ?_)
  · refine T.seq ?_
    refine T.region ?_
    refine TL.call hF awake_fn rfl rfl ?_
    rintro _ _ rfl
    refine TL.assign hF rfl rfl ?_
    refine TL.nil ?_
    refine TQ.then_n ?_
    refine T.ret ?_
    refine TQ.then_r ?_
    exact TQ.retsF [4] _ hb rfl rfl rfl (fun _ => rfl)
  · refine T.skip ?_
    refine TQ.then_n ?_
    refine T.seq ?_
    refine T.region ?_
    refine TL.move hF rfl rfl ?_
    refine TL.convK hF rfl (u8_wrap hm) rfl ?_
    refine TL.remN (b := 12) hF rfl rfl (by decide) rfl ?_
    refine TL.add hF rfl rfl (by omega) (by omega) rfl ?_
    obtain ⟨R, hRe⟩ : ∃ R : Nat, R = 1 + m % 12 := ⟨_, rfl⟩
    have hR12 : 0 < R ∧ R ≤ 12 := by omega
    rw [show (1 : Int) + ((m % 12 : Nat) : Int) = (R : Int) by omega]
    have hl60 : xs.length ≤ 60 := by have h : ¬ (60 : Int) < (xs.length : Int) := ht21; omega
    refine TL.assign hF rfl rfl ?_
    refine TL.nil ?_
    refine TQ.then_n ?_
    refine T.seq ?_
    refine T.region ?_
    refine TL.move hF rfl rfl ?_
    refine TL.move hF rfl rfl ?_
    refine TL.call hF (loose_fn hx hl60 hfc hxs hR12.1 (by omega)) rfl rfl ?_
    rintro _ _ ⟨pa, pc, s1, rs, rfl, rfl, hr, hkey⟩
    have hmo := made_ok hkey hR12.1 (by omega) hl60
    refine TL.freeze s1 rfl (fun S1 w1 hz1 => ?_)
    have hb := hb.frz hz1
    have hr := hr.frz hz1
    refine TL.assign hF rfl rfl ?_
    refine TL.nil ?_
    refine TQ.then_n ?_
    refine T.seq ?_
    refine T.region ?_
    refine TL.move hF rfl rfl ?_
    refine TL.move hF rfl rfl ?_
    refine TL.call hF (Blocks_prog (R : Int) hr (by have := hmo.len; omega) hmo.bl63) rfl rfl ?_
    rintro _ _ ⟨ba, bc, s2, rfl, rfl, hO⟩
    refine TL.freeze s2 rfl (fun S2 w2 hz2 => ?_)
    have hb := hb.frz hz2
    have hr := hr.old hz2
    have hO := hO.frz hz2
    refine TL.move hF rfl rfl ?_
    refine TL.extract hF rfl rfl rfl ?_
    refine TL.extract hF rfl rfl rfl ?_
    refine TL.assign hF rfl rfl ?_
    refine TL.assign hF rfl rfl ?_
    refine TL.nil ?_
    refine TQ.then_n ?_
    refine T.seq ?_
    refine T.region ?_
    refine TL.move hF rfl rfl ?_
    refine TL.move hF rfl rfl ?_
    refine TL.call hF (Levels_prog (R : Int) hr (by have := hmo.len; omega) hmo.bl63) rfl rfl ?_
    rintro _ _ ⟨la, lc, s3, rfl, rfl, hLr⟩
    refine TL.freeze s3 rfl (fun S3 w3 hz3 => ?_)
    have hb := hb.frz hz3
    have hr := hr.old hz3
    have hO := hO.old hz3
    have hLr := hLr.frz hz3
    refine TL.move hF rfl rfl ?_
    refine TL.extract hF rfl rfl rfl ?_
    refine TL.extract hF rfl rfl rfl ?_
    refine TL.assign hF rfl rfl ?_
    refine TL.assign hF rfl rfl ?_
    refine TL.nil ?_
    refine TQ.then_n ?_
    refine T.seq ?_
    refine T.seq ?_
    refine T.region ?_
    refine TL.move hF rfl rfl ?_
    refine TL.bin hF rfl rfl rfl rfl ?_
    refine TL.nil ?_
    refine TQ.then_n ?_
    first | refine T.cond_d rfl (fun ht43 => ?_) (fun ht43 => ?_) | refine T.cond _ rfl (fun ht43 => ?_) (fun ht43 => ?_)
    · refine T.seq ?_
      refine T.region ?_
      have hle := levels_err (R := R) (rs := rs) ht43
      rw [hle]
      refine TL.move hF rfl rfl ?_
      refine TL.move hF rfl rfl ?_
      refine TL.bin hF rfl rfl rfl rfl ?_
      refine TL.move hF rfl rfl ?_
      refine TL.on rfl rfl rfl (decide_eq_true rfl) ?_
      refine TL.move hF rfl rfl ?_
      refine TL.on rfl rfl rfl (decide_eq_true rfl) ?_
      refine TL.len hF rfl rfl ?_
      refine TL.on rfl rfl rfl (decide_eq_true rfl) ?_
      refine TL.bin hF rfl rfl rfl rfl ?_
      refine TL.pickT hF rfl (decide_eq_true rfl) rfl rfl ?_
      refine TL.move hF rfl rfl ?_
      refine TL.on rfl rfl rfl (decide_eq_true rfl) ?_
      refine TL.call hF awake_fn rfl rfl ?_
      rintro _ _ rfl
      refine TL.pickT hF rfl (decide_eq_true rfl) rfl rfl ?_
      refine TL.assign hF rfl rfl ?_
      refine TL.nil ?_
      refine TQ.then_n ?_
      refine T.ret ?_
      refine TQ.then_r ?_
      exact TQ.retsF [4] _ hb rfl rfl rfl (fun _ => rfl)
    · refine T.skip ?_
      refine TQ.then_n ?_
      refine T.seq ?_
      refine T.seq ?_
      refine T.region ?_
      have hbz : (blocksS R rs).2 = 0 := Classical.not_not.1 ht43
      have hle := levels_ok (R := R) (rs := rs) hbz
      obtain ⟨hbe, hob⟩ := blocks_ok hmo hbz
      have hlk := lev_ok (E := EU rs) (D := ED rs) (R := R) (by omega) (fun a b h => uses_le h) hob
      rw [hbe] at hle hO
      obtain ⟨ls, hls⟩ : ∃ ls, ls = orderS R (fwM (EU rs) R) R [] := ⟨_, rfl⟩
      have hlsl : ls.length ≤ 48 := by have := orderS_len (n := R) (M := fwM (EU rs) R) R []; rw [hls]; omega
      simp only at hle hO
      rw [← hls] at hle hO hlk
      obtain ⟨L, hL⟩ : ∃ L, L = levelsF (EU rs) (ED rs) R ls := ⟨_, rfl⟩
      rw [← hL] at hle hlk
      rw [hle] at hLr ⊢
      rw [hbe]
      simp only [← hls]
      have hlen : ((List.range R).map L).length = R := by simp
      rw [hlen]
      have hLat : ∀ a, a < R → At S3 w3 [] (sAt la (a * 1)) (.int .i64 (L a)) := fun a ha => by
        rw [Nat.mul_one]; exact hLr.cell a _ (by simp [ints, ha])
      have hLad : ∃ ad, la = some ad ∧ ad.spot = none := hLr.ad (by simp [ints]; omega)
      refine TL.move hF rfl rfl ?_
      refine TL.bin hF rfl rfl rfl rfl ?_
      refine TL.move hF rfl rfl ?_
      refine TL.on rfl rfl rfl (decide_eq_false (by simp)) ?_
      refine TL.move hF rfl rfl ?_
      refine TL.on rfl rfl rfl (decide_eq_false (by simp)) ?_
      refine TL.len hF rfl rfl ?_
      refine TL.on rfl rfl rfl (decide_eq_false (by simp)) ?_
      refine TL.move hF rfl rfl ?_
      refine TL.on rfl rfl rfl (decide_eq_false (by simp)) ?_
      refine TL.bin hF rfl rfl rfl rfl ?_
      refine TL.pickF hF rfl (decide_eq_false (by simp)) rfl rfl ?_
      refine TL.nil ?_
      refine TQ.then_n ?_
      refine T.cond_f rfl (decide_eq_false (by simp)) ?_
      refine T.skip ?_
      refine TQ.then_n ?_
      refine T.seq ?_
      refine T.region ?_
      refine TL.move hF rfl rfl ?_
      refine TL.move hF rfl rfl ?_
      refine TL.call hF (direct_fn (R := R) hr (by have := hmo.len; omega) hmo.bl63 (by omega) hmo.rg) rfl rfl ?_
      rintro _ _ ⟨ta, tc, na, nc, s4, rfl, rfl, hT, hN⟩
      refine TL.freeze s4 rfl (fun S4 w4 hz4 => ?_)
      have hb := hb.frz hz4
      have hO := hO.old hz4
      have hLr := hLr.old hz4
      have hT := hT.frz hz4
      have hN := hN.frz hz4
      have hLat : ∀ a, a < R → At S4 w4 [] (sAt la (a * 1)) (.int .i64 (L a)) := fun a ha => hz4.old (hLat a ha)
      obtain ⟨tf, htf⟩ := hT
      obtain ⟨nf, hnf⟩ := hN
      have htE : ∀ a b, a < R → b < R → At S4 w4 [] (sAt (tf a).1 (b * 1)) (.bool (EU rs a b)) := fun a b ha hb2 => by
        rw [Nat.mul_one]; exact (htf a ha).2.2.cell b _ (rowC_get hb2)
      have hnE : ∀ a b, a < R → b < R → At S4 w4 [] (sAt (nf a).1 (b * 1)) (.bool (ED rs a b)) := fun a b ha hb2 => by
        rw [Nat.mul_one]; exact (hnf a ha).2.2.cell b _ (rowC_get hb2)
      have htA : ∀ a, a < R → ∃ ad, (tf a).1 = some ad ∧ ad.spot = none := fun a ha => (htf a ha).2.2.ad (by simp [rowC_len]; omega)
      have hnA : ∀ a, a < R → ∃ ad, (nf a).1 = some ad ∧ ad.spot = none := fun a ha => (hnf a ha).2.2.ad (by simp [rowC_len]; omega)
      refine TL.move hF rfl rfl ?_
      refine TL.extract hF rfl rfl rfl ?_
      refine TL.extract hF rfl rfl rfl ?_
      refine TL.assign hF rfl rfl ?_
      refine TL.assign hF rfl rfl ?_
      refine TL.nil ?_
      refine TQ.then_n ?_
      refine T.seq ?_
      refine T.seq ?_
      refine T.region ?_
      refine TL.move hF rfl rfl ?_
      refine TL.len hF rfl rfl ?_
      refine TL.move hF rfl rfl ?_
      refine TL.nil ?_
      refine TQ.then_n ?_
      refine T.block ?_
      refine T.loop (ι := Nat) (fun i => i ≤ ls.length) (fun i => [(5, .int .i64 (R : Int)), (7, .slice ba ls.length bc), (9, .slice la R lc), (11, .slice ta R tc), (12, .slice na R nc), (69, .slice ba ls.length bc), (70, .int .i64 (ls.length : Int)), (71, .int .i64 (i : Int))]) (fun _ => []) (fun i => ls.length - i) 0 (Nat.zero_le _) ⟨rfl, rfl, rfl, rfl, rfl, rfl, rfl, rfl, trivial⟩ rfl ?_
      rintro i hi
      refine T.seq ?_
      refine T.region ?_
      refine TL.bin hF rfl rfl rfl rfl ?_
      refine TL.nil ?_
      refine TQ.then_n ?_
      refine T.seq ?_
      first | refine T.cond_d rfl (fun ht72 => ?_) (fun ht72 => ?_) | refine T.cond _ rfl (fun ht72 => ?_) (fun ht72 => ?_)
      · refine T.skip ?_
        refine TQ.then_n ?_
        refine T.seq ?_
        refine T.block ?_
        refine T.seq ?_
        refine T.region ?_
        have hil : i < ls.length := by have h : (i : Int) < ls.length := ht72; omega
        obtain ⟨hbad, oa, oc, hov, hor⟩ := hO.at hil
        obtain ⟨own, hown⟩ : ∃ own, own = ls[i] := ⟨_, rfl⟩
        have hmem : own ∈ ls := by rw [hown]; exact List.getElem_mem _
        rw [← hown] at hov hor
        have honl : own.length ≤ 48 := by
          have := (blocksS_len R rs).2; rw [hbe, ← hls] at this; exact this own hmem
        refine TL.indexAddr hF rfl rfl hbad (by omega) (by omega) rfl ?_
        refine TL.load hF rfl (by rw [Int.toNat_natCast]; exact hov) rfl ?_
        refine TL.assign hF rfl rfl ?_
        refine TL.nil ?_
        refine TQ.then_n ?_
        refine T.seq ?_
        refine T.region ?_
        refine TL.assign hF rfl rfl ?_
        refine TL.nil ?_
        refine TQ.then_n ?_
        refine T.seq ?_
        refine T.seq ?_
        refine T.region ?_
        refine TL.move hF rfl rfl ?_
        refine TL.len hF rfl rfl ?_
        refine TL.move hF rfl rfl ?_
        refine TL.nil ?_
        refine TQ.then_n ?_
        refine T.block ?_
        refine T.loop (ι := Nat) (fun k => k ≤ own.length) (fun k => [(5, .int .i64 (R : Int)), (7, .slice ba ls.length bc), (9, .slice la R lc), (11, .slice ta R tc), (12, .slice na R nc), (69, .slice ba ls.length bc), (70, .int .i64 (ls.length : Int)), (71, .int .i64 (i : Int)), (14, .slice oa own.length oc), (15, .int .i64 (needB (EU rs) (ED rs) R own L (own.take k))), (75, .slice oa own.length oc), (76, .int .i64 (own.length : Int)), (77, .int .i64 (k : Int))]) (fun _ => []) (fun k => own.length - k) 0 (Nat.zero_le _) ⟨rfl, rfl, rfl, rfl, rfl, rfl, rfl, rfl, rfl, rfl, rfl, rfl, rfl, trivial⟩ rfl ?_
        rintro k hk
        refine T.seq ?_
        refine T.region ?_
        refine TL.bin hF rfl rfl rfl rfl ?_
        refine TL.nil ?_
        refine TQ.then_n ?_
        refine T.seq ?_
        first | refine T.cond_d rfl (fun ht78 => ?_) (fun ht78 => ?_) | refine T.cond _ rfl (fun ht78 => ?_) (fun ht78 => ?_)
        · refine T.skip ?_
          refine TQ.then_n ?_
          refine T.seq ?_
          refine T.block ?_
          refine T.seq ?_
          refine T.region ?_
          have hkl : k < own.length := by have h : (k : Int) < own.length := ht78; omega
          obtain ⟨a, ha⟩ : ∃ a, a = own[k] := ⟨_, rfl⟩
          have hao : a ∈ own := by rw [ha]; exact List.getElem_mem _
          have haR := hlk.lt own hmem a hao
          obtain ⟨a0, ha0⟩ : ∃ a0, a0 = own[0]'(by omega) := ⟨_, rfl⟩
          have ha0o : a0 ∈ own := by rw [ha0]; exact List.getElem_mem _
          have ha0R := hlk.lt own hmem a0 ha0o
          have hsm := hlk.same own hmem a hao a0 ha0o
          refine TL.indexAddr hF rfl rfl (hor.nad hkl) (by omega) (by omega) rfl ?_
          refine TL.load hF rfl (v := .int .i64 (a : Int)) (by rw [ha, Int.toNat_natCast]; exact hor.nat hkl) rfl ?_
          refine TL.assign hF rfl rfl ?_
          refine TL.nil ?_
          refine TQ.then_n ?_
          refine T.seq ?_
          refine T.seq ?_
          refine T.draw ?_
          refine DR.stepV [_] rfl [(17, _, none)] rfl rfl ⟨⟨rfl, by kernel_rfl⟩, trivial⟩ (fun ext => TL.move hF rfl rfl TL.fin) ?_
          refine DR.stepV [_, _] rfl [(81, _, some 0)] rfl rfl ⟨⟨rfl, rfl, rfl⟩, trivial⟩ (fun ext => TL.bin hF rfl rfl rfl rfl TL.fin) ?_
          refine DR.stepV [_, _, _] rfl [(82, _, some 1)] rfl rfl ⟨⟨rfl, rfl, rfl⟩, trivial⟩ (fun ext => TL.move hF rfl rfl TL.fin) ?_
          refine DR.stepV [_, _, _, _] rfl [(17, _, none), (83, _, some 2)] rfl rfl ⟨⟨rfl, by kernel_rfl⟩, ⟨rfl, rfl, rfl⟩, trivial⟩ (fun ext => TL.on rfl rfl rfl (decide_eq_false (by omega)) <| TL.move hF rfl rfl TL.fin) ?_
          refine DR.stepV [_, _, _, _, _] rfl [(5, _, none), (83, _, some 2)] rfl rfl ⟨⟨rfl, by kernel_rfl⟩, ⟨rfl, rfl, rfl⟩, trivial⟩ (fun ext => TL.on rfl rfl rfl (decide_eq_false (by omega)) <| TL.move hF rfl rfl TL.fin) ?_
          refine DR.stepV [_, _, _, _, _, _] rfl [(84, _, some 3), (85, _, some 4), (83, _, some 2)] rfl rfl ⟨⟨rfl, rfl, rfl⟩, ⟨rfl, rfl, rfl⟩, ⟨rfl, rfl, rfl⟩, trivial⟩ (fun ext => TL.on rfl rfl rfl (decide_eq_false (by omega)) <| TL.bin hF rfl rfl rfl rfl TL.fin) ?_
          refine DR.stepV [_, _, _, _, _, _, _] rfl [(83, _, some 2), (86, _, some 5)] rfl rfl ⟨⟨rfl, rfl, rfl⟩, ⟨rfl, rfl, rfl⟩, trivial⟩ (fun ext => TL.pickF hF rfl (decide_eq_false (by omega)) rfl rfl TL.fin) ?_
          refine DR.stepV [_, _, _, _, _, _, _, _] rfl [(87, _, some 6)] rfl rfl ⟨⟨rfl, rfl, rfl⟩, trivial⟩ (fun ext => TL.move hF rfl rfl TL.fin) ?_
          refine DR.stepV [_, _, _, _, _, _, _, _, _] rfl [(9, _, none), (88, _, some 7)] rfl rfl ⟨⟨rfl, by kernel_rfl⟩, ⟨rfl, rfl, rfl⟩, trivial⟩ (fun ext => TL.on rfl rfl rfl (decide_eq_false (by omega)) <| TL.move hF rfl rfl TL.fin) ?_
          refine DR.stepV [_, _, _, _, _, _, _, _, _, _] rfl [(17, _, none), (88, _, some 7)] rfl rfl ⟨⟨rfl, by kernel_rfl⟩, ⟨rfl, rfl, rfl⟩, trivial⟩ (fun ext => TL.on rfl rfl rfl (decide_eq_false (by omega)) <| TL.move hF rfl rfl TL.fin) ?_
          refine DR.stepV [_, _, _, _, _, _, _, _, _, _, _] rfl [(89, _, some 8), (90, _, some 9), (88, _, some 7)] rfl rfl ⟨⟨rfl, rfl, rfl⟩, ⟨rfl, rfl, rfl⟩, ⟨rfl, rfl, rfl⟩, trivial⟩ (fun ext => TL.on rfl rfl rfl (decide_eq_false (by omega)) <| TL.indexAddr hF rfl rfl hLad (by omega) (by omega) rfl TL.fin) ?_
          refine DR.stepV [_, _, _, _, _, _, _, _, _, _, _, _] rfl [(91, _, some 10), (88, _, some 7)] rfl rfl ⟨⟨rfl, rfl, rfl⟩, ⟨rfl, rfl, rfl⟩, trivial⟩ (fun ext => TL.on rfl rfl rfl (decide_eq_false (by omega)) <| TL.load hF rfl (v := .int .i64 (L a)) (by rw [Int.toNat_natCast]; exact hLat a (by omega)) rfl TL.fin) ?_
          refine DR.stepV [_, _, _, _, _, _, _, _, _, _, _, _, _] rfl [(9, _, none), (88, _, some 7)] rfl rfl ⟨⟨rfl, by kernel_rfl⟩, ⟨rfl, rfl, rfl⟩, trivial⟩ (fun ext => TL.on rfl rfl rfl (decide_eq_false (by omega)) <| TL.move hF rfl rfl TL.fin) ?_
          refine DR.stepV [_, _, _, _, _, _, _, _, _, _, _, _, _, _] rfl [(14, _, none), (88, _, some 7)] rfl rfl ⟨⟨rfl, by kernel_rfl⟩, ⟨rfl, rfl, rfl⟩, trivial⟩ (fun ext => TL.on rfl rfl rfl (decide_eq_false (by omega)) <| TL.move hF rfl rfl TL.fin) ?_
          refine DR.stepV [_, _, _, _, _, _, _, _, _, _, _, _, _, _, _] rfl [(94, _, some 13), (88, _, some 7)] rfl rfl ⟨⟨rfl, rfl, rfl⟩, ⟨rfl, rfl, rfl⟩, trivial⟩ (fun ext => TL.on rfl rfl rfl (decide_eq_false (by omega)) <| TL.indexAddr hF rfl rfl (hor.nad (i := 0) (by omega)) (by omega) (by omega) rfl TL.fin) ?_
          refine DR.stepV [_, _, _, _, _, _, _, _, _, _, _, _, _, _, _, _] rfl [(95, _, some 14), (88, _, some 7)] rfl rfl ⟨⟨rfl, rfl, rfl⟩, ⟨rfl, rfl, rfl⟩, trivial⟩ (fun ext => TL.on rfl rfl rfl (decide_eq_false (by omega)) <| TL.load hF rfl (v := .int .i64 (a0 : Int)) (by rw [ha0]; exact hor.nat (i := 0) (by omega)) rfl TL.fin) ?_
          refine DR.stepV [_, _, _, _, _, _, _, _, _, _, _, _, _, _, _, _, _] rfl [(93, _, some 12), (96, _, some 15), (88, _, some 7)] rfl rfl ⟨⟨rfl, rfl, rfl⟩, ⟨rfl, rfl, rfl⟩, ⟨rfl, rfl, rfl⟩, trivial⟩ (fun ext => TL.on rfl rfl rfl (decide_eq_false (by omega)) <| TL.indexAddr hF rfl rfl hLad (by omega) (by omega) rfl TL.fin) ?_
          refine DR.stepV [_, _, _, _, _, _, _, _, _, _, _, _, _, _, _, _, _, _] rfl [(97, _, some 16), (88, _, some 7)] rfl rfl ⟨⟨rfl, rfl, rfl⟩, ⟨rfl, rfl, rfl⟩, trivial⟩ (fun ext => TL.on rfl rfl rfl (decide_eq_false (by omega)) <| TL.load hF rfl (v := .int .i64 (L a0)) (by rw [Int.toNat_natCast]; exact hLat a0 (by omega)) rfl TL.fin) ?_
          refine DR.done [(98, _), (97, _), (96, _), (95, _), (94, _), (93, _), (92, _), (91, _), (90, _), (89, _), (88, _), (87, _), (86, _), (85, _), (84, _), (83, _), (82, _), (81, _)] [_, _] mixed (by kernel_rfl) (by kernel_rfl) (by kernel_rfl) rfl rfl ?_
          refine TL.on rfl rfl rfl (decide_eq_false (by omega)) ?_
          refine TL.bin hF rfl rfl rfl rfl ?_
          refine TL.pickF hF rfl (decide_eq_false (by omega)) rfl rfl ?_
          refine TL.nil ?_
          refine TQ.then_n ?_
          refine T.cond_f rfl (decide_eq_false (by rw [hsm]; simp)) ?_
          refine T.skip ?_
          refine TQ.then_n ?_
          refine T.seq ?_
          refine T.region ?_
          refine TL.move hF rfl rfl ?_
          refine TL.len hF rfl rfl ?_
          refine TL.move hF rfl rfl ?_
          refine TL.nil ?_
          refine TQ.then_n ?_
          refine T.block ?_
          have hnb := needB_snoc (EU rs) (ED rs) R own L (own.take k) a
          refine T.loop (ι := Nat) (fun j => j ≤ R) (fun j => [(5, .int .i64 (R : Int)), (7, .slice ba ls.length bc), (9, .slice la R lc), (11, .slice ta R tc), (12, .slice na R nc), (69, .slice ba ls.length bc), (70, .int .i64 (ls.length : Int)), (71, .int .i64 (i : Int)), (14, .slice oa own.length oc), (15, .int .i64 (needA (EU rs) (ED rs) own L a (needB (EU rs) (ED rs) R own L (own.take k)) j)), (75, .slice oa own.length oc), (76, .int .i64 (own.length : Int)), (77, .int .i64 (k : Int)), (17, .int .i64 (a : Int)), (102, .int .i64 (R : Int)), (103, .int .i64 (j : Int))]) (fun _ => []) (fun j => R - j) 0 (Nat.zero_le _) ⟨rfl, rfl, rfl, rfl, rfl, rfl, rfl, rfl, rfl, rfl, rfl, rfl, rfl, rfl, rfl, rfl, trivial⟩ rfl ?_
          rintro j hj
          have hLj := hlk.bd j
          refine T.seq ?_
          refine T.region ?_
          refine TL.bin hF rfl rfl rfl rfl ?_
          refine TL.nil ?_
          refine TQ.then_n ?_
          refine T.seq ?_
          first | refine T.cond_d rfl (fun ht104 => ?_) (fun ht104 => ?_) | refine T.cond _ rfl (fun ht104 => ?_) (fun ht104 => ?_)
          · refine T.skip ?_
            refine TQ.then_n ?_
            refine T.seq ?_
            refine T.block ?_
            refine T.seq ?_
            refine T.region ?_
            refine TL.move hF rfl rfl ?_
            refine TL.assign hF rfl rfl ?_
            refine TL.nil ?_
            refine TQ.then_n ?_
            refine T.seq ?_
            refine T.seq ?_
            have h3 : (EU rs a j = true ∧ ED rs a j = true) ∨ (EU rs a j = true ∧ ED rs a j = false) ∨ (EU rs a j = false ∧ ED rs a j = false) := by
              cases he : EU rs a j <;> cases hd : ED rs a j <;> simp
              have := uses_le (a := a) (b := j) (xs := rs) hd; rw [show uses a j false rs = false from he] at this; cases this
            have hu1 : j < R → EU rs a j = true → L j ≤ L a := fun h1 h2 => hlk.use a j haR h1 h2
            have hd1 : j < R → ED rs a j = true → L j < L a := fun h1 h2 => hlk.den a j haR h1 h2
            rcases h3 with ⟨hc1, hc2⟩ | ⟨hc1, hc2⟩ | ⟨hc1, hc2⟩
            · have hjR : j < R := by have h : (j : Int) < R := ht104; omega
              refine T.draw ?_
              refine DR.stepV [_] rfl [(11, _, none)] rfl rfl ⟨⟨rfl, by kernel_rfl⟩, trivial⟩ (fun ext => TL.move hF rfl rfl TL.fin) ?_
              refine DR.stepV [_, _] rfl [(17, _, none)] rfl rfl ⟨⟨rfl, by kernel_rfl⟩, trivial⟩ (fun ext => TL.move hF rfl rfl TL.fin) ?_
              refine DR.stepV [_, _, _] rfl [(106, _, some 0), (107, _, some 1)] rfl rfl ⟨⟨rfl, rfl, rfl⟩, ⟨rfl, rfl, rfl⟩, trivial⟩ (fun ext => TL.indexAddr hF rfl rfl ((htf a haR).1) (by omega) (by omega) rfl TL.fin) ?_
              refine DR.stepV [_, _, _, _] rfl [(108, _, some 2)] rfl rfl ⟨⟨rfl, rfl, rfl⟩, trivial⟩ (fun ext => TL.load hF rfl (by rw [Int.toNat_natCast]; exact (htf a haR).2.1) rfl TL.fin) ?_
              refine DR.stepV [_, _, _, _, _] rfl [(18, _, none)] rfl rfl ⟨⟨rfl, by kernel_rfl⟩, trivial⟩ (fun ext => TL.move hF rfl rfl TL.fin) ?_
              refine DR.stepV [_, _, _, _, _, _] rfl [(109, _, some 3), (110, _, some 4)] rfl rfl ⟨⟨rfl, rfl, rfl⟩, ⟨rfl, rfl, rfl⟩, trivial⟩ (fun ext => TL.indexAddr hF rfl rfl (htA a haR) (by omega) (by omega) rfl TL.fin) ?_
              refine DR.stepV [_, _, _, _, _, _, _] rfl [(111, _, some 5)] rfl rfl ⟨⟨rfl, rfl, rfl⟩, trivial⟩ (fun ext => TL.load hF rfl (by rw [Int.toNat_natCast]; exact htE a j haR hjR) rfl TL.fin) ?_
              refine DR.stepV [_, _, _, _, _, _, _, _] rfl [(112, _, some 6)] rfl rfl ⟨⟨rfl, rfl, rfl⟩, trivial⟩ (fun ext => TL.move hF rfl rfl TL.fin) ?_
              refine DR.stepV [_, _, _, _, _, _, _, _, _] rfl [(9, _, none), (113, _, some 7)] rfl rfl ⟨⟨rfl, by kernel_rfl⟩, ⟨rfl, rfl, rfl⟩, trivial⟩ (fun ext => TL.on rfl rfl rfl hc1 <| TL.move hF rfl rfl TL.fin) ?_
              refine DR.stepV [_, _, _, _, _, _, _, _, _, _] rfl [(18, _, none), (113, _, some 7)] rfl rfl ⟨⟨rfl, by kernel_rfl⟩, ⟨rfl, rfl, rfl⟩, trivial⟩ (fun ext => TL.on rfl rfl rfl hc1 <| TL.move hF rfl rfl TL.fin) ?_
              refine DR.stepV [_, _, _, _, _, _, _, _, _, _, _] rfl [(114, _, some 8), (115, _, some 9), (113, _, some 7)] rfl rfl ⟨⟨rfl, rfl, rfl⟩, ⟨rfl, rfl, rfl⟩, ⟨rfl, rfl, rfl⟩, trivial⟩ (fun ext => TL.on rfl rfl rfl hc1 <| TL.indexAddr hF rfl rfl hLad (by omega) (by omega) rfl TL.fin) ?_
              refine DR.stepV [_, _, _, _, _, _, _, _, _, _, _, _] rfl [(116, _, some 10), (113, _, some 7)] rfl rfl ⟨⟨rfl, rfl, rfl⟩, ⟨rfl, rfl, rfl⟩, trivial⟩ (fun ext => TL.on rfl rfl rfl hc1 <| TL.load hF rfl (v := .int .i64 (L j)) (by rw [Int.toNat_natCast]; exact hLat j (by omega)) rfl TL.fin) ?_
              refine DR.stepV [_, _, _, _, _, _, _, _, _, _, _, _, _] rfl [(9, _, none), (113, _, some 7)] rfl rfl ⟨⟨rfl, by kernel_rfl⟩, ⟨rfl, rfl, rfl⟩, trivial⟩ (fun ext => TL.on rfl rfl rfl hc1 <| TL.move hF rfl rfl TL.fin) ?_
              refine DR.stepV [_, _, _, _, _, _, _, _, _, _, _, _, _, _] rfl [(17, _, none), (113, _, some 7)] rfl rfl ⟨⟨rfl, by kernel_rfl⟩, ⟨rfl, rfl, rfl⟩, trivial⟩ (fun ext => TL.on rfl rfl rfl hc1 <| TL.move hF rfl rfl TL.fin) ?_
              refine DR.stepV [_, _, _, _, _, _, _, _, _, _, _, _, _, _, _] rfl [(118, _, some 12), (119, _, some 13), (113, _, some 7)] rfl rfl ⟨⟨rfl, rfl, rfl⟩, ⟨rfl, rfl, rfl⟩, ⟨rfl, rfl, rfl⟩, trivial⟩ (fun ext => TL.on rfl rfl rfl hc1 <| TL.indexAddr hF rfl rfl hLad (by omega) (by omega) rfl TL.fin) ?_
              refine DR.stepV [_, _, _, _, _, _, _, _, _, _, _, _, _, _, _, _] rfl [(120, _, some 14), (113, _, some 7)] rfl rfl ⟨⟨rfl, rfl, rfl⟩, ⟨rfl, rfl, rfl⟩, trivial⟩ (fun ext => TL.on rfl rfl rfl hc1 <| TL.load hF rfl (v := .int .i64 (L a)) (by rw [Int.toNat_natCast]; exact hLat a (by omega)) rfl TL.fin) ?_
              refine DR.stepV [_, _, _, _, _, _, _, _, _, _, _, _, _, _, _, _, _] rfl [(117, _, some 11), (121, _, some 15), (113, _, some 7)] rfl rfl ⟨⟨rfl, rfl, rfl⟩, ⟨rfl, rfl, rfl⟩, ⟨rfl, rfl, rfl⟩, trivial⟩ (fun ext => TL.on rfl rfl rfl hc1 <| TL.bin hF rfl rfl rfl rfl TL.fin) ?_
              refine DR.stepV [_, _, _, _, _, _, _, _, _, _, _, _, _, _, _, _, _, _] rfl [(113, _, some 7), (122, _, some 16)] rfl rfl ⟨⟨rfl, rfl, rfl⟩, ⟨rfl, rfl, rfl⟩, trivial⟩ (fun ext => TL.pickT hF rfl hc1 rfl rfl TL.fin) ?_
              refine DR.stepV [_, _, _, _, _, _, _, _, _, _, _, _, _, _, _, _, _, _, _] rfl [(123, _, some 17)] rfl rfl ⟨⟨rfl, rfl, rfl⟩, trivial⟩ (fun ext => TL.move hF rfl rfl TL.fin) ?_
              refine DR.stepV [_, _, _, _, _, _, _, _, _, _, _, _, _, _, _, _, _, _, _, _] rfl [(12, _, none), (124, _, some 18)] rfl rfl ⟨⟨rfl, by kernel_rfl⟩, ⟨rfl, rfl, rfl⟩, trivial⟩ (fun ext => TL.on rfl rfl rfl (decide_eq_false (by have := hu1 hjR hc1; omega)) <| TL.move hF rfl rfl TL.fin) ?_
              refine DR.stepV [_, _, _, _, _, _, _, _, _, _, _, _, _, _, _, _, _, _, _, _, _] rfl [(17, _, none), (124, _, some 18)] rfl rfl ⟨⟨rfl, by kernel_rfl⟩, ⟨rfl, rfl, rfl⟩, trivial⟩ (fun ext => TL.on rfl rfl rfl (decide_eq_false (by have := hu1 hjR hc1; omega)) <| TL.move hF rfl rfl TL.fin) ?_
              refine DR.stepV [_, _, _, _, _, _, _, _, _, _, _, _, _, _, _, _, _, _, _, _, _, _] rfl [(125, _, some 19), (126, _, some 20), (124, _, some 18)] rfl rfl ⟨⟨rfl, rfl, rfl⟩, ⟨rfl, rfl, rfl⟩, ⟨rfl, rfl, rfl⟩, trivial⟩ (fun ext => TL.on rfl rfl rfl (decide_eq_false (by have := hu1 hjR hc1; omega)) <| TL.indexAddr hF rfl rfl ((hnf a haR).1) (by omega) (by omega) rfl TL.fin) ?_
              refine DR.stepV [_, _, _, _, _, _, _, _, _, _, _, _, _, _, _, _, _, _, _, _, _, _, _] rfl [(127, _, some 21), (124, _, some 18)] rfl rfl ⟨⟨rfl, rfl, rfl⟩, ⟨rfl, rfl, rfl⟩, trivial⟩ (fun ext => TL.on rfl rfl rfl (decide_eq_false (by have := hu1 hjR hc1; omega)) <| TL.load hF rfl (by rw [Int.toNat_natCast]; exact (hnf a haR).2.1) rfl TL.fin) ?_
              refine DR.stepV [_, _, _, _, _, _, _, _, _, _, _, _, _, _, _, _, _, _, _, _, _, _, _, _] rfl [(18, _, none), (124, _, some 18)] rfl rfl ⟨⟨rfl, by kernel_rfl⟩, ⟨rfl, rfl, rfl⟩, trivial⟩ (fun ext => TL.on rfl rfl rfl (decide_eq_false (by have := hu1 hjR hc1; omega)) <| TL.move hF rfl rfl TL.fin) ?_
              refine DR.stepV [_, _, _, _, _, _, _, _, _, _, _, _, _, _, _, _, _, _, _, _, _, _, _, _, _] rfl [(128, _, some 22), (129, _, some 23), (124, _, some 18)] rfl rfl ⟨⟨rfl, rfl, rfl⟩, ⟨rfl, rfl, rfl⟩, ⟨rfl, rfl, rfl⟩, trivial⟩ (fun ext => TL.on rfl rfl rfl (decide_eq_false (by have := hu1 hjR hc1; omega)) <| TL.indexAddr hF rfl rfl (hnA a haR) (by omega) (by omega) rfl TL.fin) ?_
              refine DR.stepV [_, _, _, _, _, _, _, _, _, _, _, _, _, _, _, _, _, _, _, _, _, _, _, _, _, _] rfl [(130, _, some 24), (124, _, some 18)] rfl rfl ⟨⟨rfl, rfl, rfl⟩, ⟨rfl, rfl, rfl⟩, trivial⟩ (fun ext => TL.on rfl rfl rfl (decide_eq_false (by have := hu1 hjR hc1; omega)) <| TL.load hF rfl (by rw [Int.toNat_natCast]; exact hnE a j haR hjR) rfl TL.fin) ?_
              refine DR.stepV [_, _, _, _, _, _, _, _, _, _, _, _, _, _, _, _, _, _, _, _, _, _, _, _, _, _, _] rfl [(131, _, some 25), (124, _, some 18)] rfl rfl ⟨⟨rfl, rfl, rfl⟩, ⟨rfl, rfl, rfl⟩, trivial⟩ (fun ext => TL.on rfl rfl rfl (decide_eq_false (by have := hu1 hjR hc1; omega)) <| TL.move hF rfl rfl TL.fin) ?_
              refine DR.stepV [_, _, _, _, _, _, _, _, _, _, _, _, _, _, _, _, _, _, _, _, _, _, _, _, _, _, _, _] rfl [(9, _, none), (132, _, some 26)] rfl rfl ⟨⟨rfl, by kernel_rfl⟩, ⟨rfl, rfl, rfl⟩, trivial⟩ (fun ext => TL.on rfl rfl rfl hc2 <| TL.move hF rfl rfl TL.fin) ?_
              refine DR.stepV [_, _, _, _, _, _, _, _, _, _, _, _, _, _, _, _, _, _, _, _, _, _, _, _, _, _, _, _, _] rfl [(18, _, none), (132, _, some 26)] rfl rfl ⟨⟨rfl, by kernel_rfl⟩, ⟨rfl, rfl, rfl⟩, trivial⟩ (fun ext => TL.on rfl rfl rfl hc2 <| TL.move hF rfl rfl TL.fin) ?_
              refine DR.stepV [_, _, _, _, _, _, _, _, _, _, _, _, _, _, _, _, _, _, _, _, _, _, _, _, _, _, _, _, _, _] rfl [(133, _, some 27), (134, _, some 28), (132, _, some 26)] rfl rfl ⟨⟨rfl, rfl, rfl⟩, ⟨rfl, rfl, rfl⟩, ⟨rfl, rfl, rfl⟩, trivial⟩ (fun ext => TL.on rfl rfl rfl hc2 <| TL.indexAddr hF rfl rfl hLad (by omega) (by omega) rfl TL.fin) ?_
              refine DR.stepV [_, _, _, _, _, _, _, _, _, _, _, _, _, _, _, _, _, _, _, _, _, _, _, _, _, _, _, _, _, _, _] rfl [(135, _, some 29), (132, _, some 26)] rfl rfl ⟨⟨rfl, rfl, rfl⟩, ⟨rfl, rfl, rfl⟩, trivial⟩ (fun ext => TL.on rfl rfl rfl hc2 <| TL.load hF rfl (v := .int .i64 (L j)) (by rw [Int.toNat_natCast]; exact hLat j (by omega)) rfl TL.fin) ?_
              refine DR.stepV [_, _, _, _, _, _, _, _, _, _, _, _, _, _, _, _, _, _, _, _, _, _, _, _, _, _, _, _, _, _, _, _] rfl [(9, _, none), (132, _, some 26)] rfl rfl ⟨⟨rfl, by kernel_rfl⟩, ⟨rfl, rfl, rfl⟩, trivial⟩ (fun ext => TL.on rfl rfl rfl hc2 <| TL.move hF rfl rfl TL.fin) ?_
              refine DR.stepV [_, _, _, _, _, _, _, _, _, _, _, _, _, _, _, _, _, _, _, _, _, _, _, _, _, _, _, _, _, _, _, _, _] rfl [(17, _, none), (132, _, some 26)] rfl rfl ⟨⟨rfl, by kernel_rfl⟩, ⟨rfl, rfl, rfl⟩, trivial⟩ (fun ext => TL.on rfl rfl rfl hc2 <| TL.move hF rfl rfl TL.fin) ?_
              refine DR.stepV [_, _, _, _, _, _, _, _, _, _, _, _, _, _, _, _, _, _, _, _, _, _, _, _, _, _, _, _, _, _, _, _, _, _] rfl [(137, _, some 31), (138, _, some 32), (132, _, some 26)] rfl rfl ⟨⟨rfl, rfl, rfl⟩, ⟨rfl, rfl, rfl⟩, ⟨rfl, rfl, rfl⟩, trivial⟩ (fun ext => TL.on rfl rfl rfl hc2 <| TL.indexAddr hF rfl rfl hLad (by omega) (by omega) rfl TL.fin) ?_
              refine DR.stepV [_, _, _, _, _, _, _, _, _, _, _, _, _, _, _, _, _, _, _, _, _, _, _, _, _, _, _, _, _, _, _, _, _, _, _] rfl [(139, _, some 33), (132, _, some 26)] rfl rfl ⟨⟨rfl, rfl, rfl⟩, ⟨rfl, rfl, rfl⟩, trivial⟩ (fun ext => TL.on rfl rfl rfl hc2 <| TL.load hF rfl (v := .int .i64 (L a)) (by rw [Int.toNat_natCast]; exact hLat a (by omega)) rfl TL.fin) ?_
              refine DR.done [(140, _), (139, _), (138, _), (137, _), (136, _), (135, _), (134, _), (133, _), (132, _), (131, _), (130, _), (129, _), (128, _), (127, _), (126, _), (125, _), (124, _), (123, _), (122, _), (121, _), (120, _), (119, _), (118, _), (117, _), (116, _), (115, _), (114, _), (113, _), (112, _), (111, _), (110, _), (109, _), (108, _), (107, _), (106, _)] [_, _, _] mixed (by kernel_rfl) (by kernel_rfl) (by kernel_rfl) rfl rfl ?_
              refine TL.on rfl rfl rfl hc2 ?_
              refine TL.bin hF rfl rfl rfl rfl ?_
              refine TL.on rfl rfl rfl (decide_eq_false (by have := hu1 hjR hc1; omega)) ?_
              refine TL.pickT hF rfl hc2 rfl rfl ?_
              refine TL.pickF hF rfl (decide_eq_false (by have := hu1 hjR hc1; omega)) rfl rfl ?_
              refine TL.nil ?_
              refine TQ.then_n ?_
              refine T.cond_f rfl (decide_eq_false (by have := hd1 hjR hc2; omega)) ?_
              refine T.skip ?_
              refine TQ.then_n ?_
              refine T.seq ?_
              refine T.seq ?_
              refine T.region ?_
              refine TL.move hF rfl rfl ?_
              refine TL.move hF rfl rfl ?_
              refine TL.indexAddr hF rfl rfl ((htf a haR).1) (by omega) (by omega) rfl ?_
              refine TL.load hF rfl (by rw [Int.toNat_natCast]; exact (htf a haR).2.1) rfl ?_
              refine TL.move hF rfl rfl ?_
              refine TL.indexAddr hF rfl rfl (htA a haR) (by omega) (by omega) rfl ?_
              refine TL.load hF rfl (by rw [Int.toNat_natCast]; exact htE a j haR hjR) rfl ?_
              refine TL.move hF rfl rfl ?_
              refine TL.on rfl rfl rfl hc1 ?_
              refine TL.move hF rfl rfl ?_
              refine TL.on rfl rfl rfl hc1 ?_
              refine TL.move hF rfl rfl ?_
              refine TL.on rfl rfl rfl hc1 ?_
              refine TL.callV hF (WhereN_fn (xs := own) j hor (by omega)) rfl rfl ?_
              refine TL.on rfl rfl rfl hc1 ?_
              refine TL.bin hF rfl rfl rfl rfl ?_
              refine TL.on rfl rfl rfl hc1 ?_
              refine TL.not hF rfl rfl ?_
              refine TL.pickT hF rfl hc1 rfl rfl ?_
              refine TL.nil ?_
              refine TQ.then_n ?_
              refine T.cond _ rfl (fun ht157 => ?_) (fun ht157 => ?_)
              · refine T.region ?_
                refine TL.move hF rfl rfl ?_
                refine TL.move hF rfl rfl ?_
                refine TL.move hF rfl rfl ?_
                refine TL.indexAddr hF rfl rfl hLad (by omega) (by omega) rfl ?_
                refine TL.load hF rfl (v := .int .i64 (L j)) (by rw [Int.toNat_natCast]; exact hLat j (by omega)) rfl ?_
                refine TL.max2 hF rfl rfl rfl ?_
                refine TL.assign hF rfl rfl ?_
                refine TL.nil ?_
                refine TQ.then_n ?_
                refine T.seq ?_
                refine T.region ?_
                refine TL.move hF rfl rfl ?_
                refine TL.move hF rfl rfl ?_
                refine TL.indexAddr hF rfl rfl ((hnf a haR).1) (by omega) (by omega) rfl ?_
                refine TL.load hF rfl (by rw [Int.toNat_natCast]; exact (hnf a haR).2.1) rfl ?_
                refine TL.move hF rfl rfl ?_
                refine TL.indexAddr hF rfl rfl (hnA a haR) (by omega) (by omega) rfl ?_
                refine TL.load hF rfl (by rw [Int.toNat_natCast]; exact hnE a j haR hjR) rfl ?_
                refine TL.nil ?_
                refine TQ.then_n ?_
                refine T.cond_t rfl hc2 ?_
                refine T.region ?_
                refine TL.move hF rfl rfl ?_
                refine TL.move hF rfl rfl ?_
                refine TL.move hF rfl rfl ?_
                refine TL.indexAddr hF rfl rfl hLad (by omega) (by omega) rfl ?_
                refine TL.load hF rfl (v := .int .i64 (L j)) (by rw [Int.toNat_natCast]; exact hLat j (by omega)) rfl ?_
                refine TL.add hF rfl rfl (by omega) (by omega) rfl ?_
                refine TL.max2 hF rfl rfl rfl ?_
                refine TL.assign hF rfl rfl ?_
                refine TL.nil ?_
                refine TQ.block_n ?_
                refine TQ.then_n ?_
                refine T.region ?_
                refine TL.add hF rfl rfl (by omega) (by omega) rfl ?_
                refine TL.move hF rfl rfl ?_
                refine TL.nil ?_
                have hin : j ∉ own := by
                  have h2 := where_in (xs := own) (b := j)
                  simp at ht157; exact fun h3 => by have := h2.2 h3; omega
                have e : needA (EU rs) (ED rs) own L a (needB (EU rs) (ED rs) R own L (own.take k)) (j + 1) = max (max (needA (EU rs) (ED rs) own L a (needB (EU rs) (ED rs) R own L (own.take k)) j) (L j)) (L j + 1) := by
                  rw [needA_succ]; unfold needS; simp [hc1, hc2, hin]
                refine TQ.round (j + 1) (by omega) (by omega) ⟨rfl, rfl, rfl, rfl, rfl, rfl, rfl, rfl, rfl, by rw [e]; rfl, rfl, rfl, rfl, rfl, rfl, rfl, trivial⟩ rfl
              · refine T.skip ?_
                refine TQ.then_n ?_
                refine T.seq ?_
                refine T.region ?_
                refine TL.move hF rfl rfl ?_
                refine TL.move hF rfl rfl ?_
                refine TL.indexAddr hF rfl rfl ((hnf a haR).1) (by omega) (by omega) rfl ?_
                refine TL.load hF rfl (by rw [Int.toNat_natCast]; exact (hnf a haR).2.1) rfl ?_
                refine TL.move hF rfl rfl ?_
                refine TL.indexAddr hF rfl rfl (hnA a haR) (by omega) (by omega) rfl ?_
                refine TL.load hF rfl (by rw [Int.toNat_natCast]; exact hnE a j haR hjR) rfl ?_
                refine TL.nil ?_
                refine TQ.then_n ?_
                refine T.cond_t rfl hc2 ?_
                refine T.region ?_
                refine TL.move hF rfl rfl ?_
                refine TL.move hF rfl rfl ?_
                refine TL.move hF rfl rfl ?_
                refine TL.indexAddr hF rfl rfl hLad (by omega) (by omega) rfl ?_
                refine TL.load hF rfl (v := .int .i64 (L j)) (by rw [Int.toNat_natCast]; exact hLat j (by omega)) rfl ?_
                refine TL.add hF rfl rfl (by omega) (by omega) rfl ?_
                refine TL.max2 hF rfl rfl rfl ?_
                refine TL.assign hF rfl rfl ?_
                refine TL.nil ?_
                refine TQ.block_n ?_
                refine TQ.then_n ?_
                refine T.region ?_
                refine TL.add hF rfl rfl (by omega) (by omega) rfl ?_
                refine TL.move hF rfl rfl ?_
                refine TL.nil ?_
                have hin : j ∈ own := by
                  have h2 := where_in (xs := own) (b := j)
                  simp at ht157; exact h2.1 ht157
                have e : needA (EU rs) (ED rs) own L a (needB (EU rs) (ED rs) R own L (own.take k)) (j + 1) = max (needA (EU rs) (ED rs) own L a (needB (EU rs) (ED rs) R own L (own.take k)) j) (L j + 1) := by
                  rw [needA_succ]; unfold needS; simp [hc1, hc2, hin]
                refine TQ.round (j + 1) (by omega) (by omega) ⟨rfl, rfl, rfl, rfl, rfl, rfl, rfl, rfl, rfl, by rw [e]; rfl, rfl, rfl, rfl, rfl, rfl, rfl, trivial⟩ rfl
            · have hjR : j < R := by have h : (j : Int) < R := ht104; omega
              refine T.draw ?_
              refine DR.stepV [_] rfl [(11, _, none)] rfl rfl ⟨⟨rfl, by kernel_rfl⟩, trivial⟩ (fun ext => TL.move hF rfl rfl TL.fin) ?_
              refine DR.stepV [_, _] rfl [(17, _, none)] rfl rfl ⟨⟨rfl, by kernel_rfl⟩, trivial⟩ (fun ext => TL.move hF rfl rfl TL.fin) ?_
              refine DR.stepV [_, _, _] rfl [(106, _, some 0), (107, _, some 1)] rfl rfl ⟨⟨rfl, rfl, rfl⟩, ⟨rfl, rfl, rfl⟩, trivial⟩ (fun ext => TL.indexAddr hF rfl rfl ((htf a haR).1) (by omega) (by omega) rfl TL.fin) ?_
              refine DR.stepV [_, _, _, _] rfl [(108, _, some 2)] rfl rfl ⟨⟨rfl, rfl, rfl⟩, trivial⟩ (fun ext => TL.load hF rfl (by rw [Int.toNat_natCast]; exact (htf a haR).2.1) rfl TL.fin) ?_
              refine DR.stepV [_, _, _, _, _] rfl [(18, _, none)] rfl rfl ⟨⟨rfl, by kernel_rfl⟩, trivial⟩ (fun ext => TL.move hF rfl rfl TL.fin) ?_
              refine DR.stepV [_, _, _, _, _, _] rfl [(109, _, some 3), (110, _, some 4)] rfl rfl ⟨⟨rfl, rfl, rfl⟩, ⟨rfl, rfl, rfl⟩, trivial⟩ (fun ext => TL.indexAddr hF rfl rfl (htA a haR) (by omega) (by omega) rfl TL.fin) ?_
              refine DR.stepV [_, _, _, _, _, _, _] rfl [(111, _, some 5)] rfl rfl ⟨⟨rfl, rfl, rfl⟩, trivial⟩ (fun ext => TL.load hF rfl (by rw [Int.toNat_natCast]; exact htE a j haR hjR) rfl TL.fin) ?_
              refine DR.stepV [_, _, _, _, _, _, _, _] rfl [(112, _, some 6)] rfl rfl ⟨⟨rfl, rfl, rfl⟩, trivial⟩ (fun ext => TL.move hF rfl rfl TL.fin) ?_
              refine DR.stepV [_, _, _, _, _, _, _, _, _] rfl [(9, _, none), (113, _, some 7)] rfl rfl ⟨⟨rfl, by kernel_rfl⟩, ⟨rfl, rfl, rfl⟩, trivial⟩ (fun ext => TL.on rfl rfl rfl hc1 <| TL.move hF rfl rfl TL.fin) ?_
              refine DR.stepV [_, _, _, _, _, _, _, _, _, _] rfl [(18, _, none), (113, _, some 7)] rfl rfl ⟨⟨rfl, by kernel_rfl⟩, ⟨rfl, rfl, rfl⟩, trivial⟩ (fun ext => TL.on rfl rfl rfl hc1 <| TL.move hF rfl rfl TL.fin) ?_
              refine DR.stepV [_, _, _, _, _, _, _, _, _, _, _] rfl [(114, _, some 8), (115, _, some 9), (113, _, some 7)] rfl rfl ⟨⟨rfl, rfl, rfl⟩, ⟨rfl, rfl, rfl⟩, ⟨rfl, rfl, rfl⟩, trivial⟩ (fun ext => TL.on rfl rfl rfl hc1 <| TL.indexAddr hF rfl rfl hLad (by omega) (by omega) rfl TL.fin) ?_
              refine DR.stepV [_, _, _, _, _, _, _, _, _, _, _, _] rfl [(116, _, some 10), (113, _, some 7)] rfl rfl ⟨⟨rfl, rfl, rfl⟩, ⟨rfl, rfl, rfl⟩, trivial⟩ (fun ext => TL.on rfl rfl rfl hc1 <| TL.load hF rfl (v := .int .i64 (L j)) (by rw [Int.toNat_natCast]; exact hLat j (by omega)) rfl TL.fin) ?_
              refine DR.stepV [_, _, _, _, _, _, _, _, _, _, _, _, _] rfl [(9, _, none), (113, _, some 7)] rfl rfl ⟨⟨rfl, by kernel_rfl⟩, ⟨rfl, rfl, rfl⟩, trivial⟩ (fun ext => TL.on rfl rfl rfl hc1 <| TL.move hF rfl rfl TL.fin) ?_
              refine DR.stepV [_, _, _, _, _, _, _, _, _, _, _, _, _, _] rfl [(17, _, none), (113, _, some 7)] rfl rfl ⟨⟨rfl, by kernel_rfl⟩, ⟨rfl, rfl, rfl⟩, trivial⟩ (fun ext => TL.on rfl rfl rfl hc1 <| TL.move hF rfl rfl TL.fin) ?_
              refine DR.stepV [_, _, _, _, _, _, _, _, _, _, _, _, _, _, _] rfl [(118, _, some 12), (119, _, some 13), (113, _, some 7)] rfl rfl ⟨⟨rfl, rfl, rfl⟩, ⟨rfl, rfl, rfl⟩, ⟨rfl, rfl, rfl⟩, trivial⟩ (fun ext => TL.on rfl rfl rfl hc1 <| TL.indexAddr hF rfl rfl hLad (by omega) (by omega) rfl TL.fin) ?_
              refine DR.stepV [_, _, _, _, _, _, _, _, _, _, _, _, _, _, _, _] rfl [(120, _, some 14), (113, _, some 7)] rfl rfl ⟨⟨rfl, rfl, rfl⟩, ⟨rfl, rfl, rfl⟩, trivial⟩ (fun ext => TL.on rfl rfl rfl hc1 <| TL.load hF rfl (v := .int .i64 (L a)) (by rw [Int.toNat_natCast]; exact hLat a (by omega)) rfl TL.fin) ?_
              refine DR.stepV [_, _, _, _, _, _, _, _, _, _, _, _, _, _, _, _, _] rfl [(117, _, some 11), (121, _, some 15), (113, _, some 7)] rfl rfl ⟨⟨rfl, rfl, rfl⟩, ⟨rfl, rfl, rfl⟩, ⟨rfl, rfl, rfl⟩, trivial⟩ (fun ext => TL.on rfl rfl rfl hc1 <| TL.bin hF rfl rfl rfl rfl TL.fin) ?_
              refine DR.stepV [_, _, _, _, _, _, _, _, _, _, _, _, _, _, _, _, _, _] rfl [(113, _, some 7), (122, _, some 16)] rfl rfl ⟨⟨rfl, rfl, rfl⟩, ⟨rfl, rfl, rfl⟩, trivial⟩ (fun ext => TL.pickT hF rfl hc1 rfl rfl TL.fin) ?_
              refine DR.stepV [_, _, _, _, _, _, _, _, _, _, _, _, _, _, _, _, _, _, _] rfl [(123, _, some 17)] rfl rfl ⟨⟨rfl, rfl, rfl⟩, trivial⟩ (fun ext => TL.move hF rfl rfl TL.fin) ?_
              refine DR.stepV [_, _, _, _, _, _, _, _, _, _, _, _, _, _, _, _, _, _, _, _] rfl [(12, _, none), (124, _, some 18)] rfl rfl ⟨⟨rfl, by kernel_rfl⟩, ⟨rfl, rfl, rfl⟩, trivial⟩ (fun ext => TL.on rfl rfl rfl (decide_eq_false (by have := hu1 hjR hc1; omega)) <| TL.move hF rfl rfl TL.fin) ?_
              refine DR.stepV [_, _, _, _, _, _, _, _, _, _, _, _, _, _, _, _, _, _, _, _, _] rfl [(17, _, none), (124, _, some 18)] rfl rfl ⟨⟨rfl, by kernel_rfl⟩, ⟨rfl, rfl, rfl⟩, trivial⟩ (fun ext => TL.on rfl rfl rfl (decide_eq_false (by have := hu1 hjR hc1; omega)) <| TL.move hF rfl rfl TL.fin) ?_
              refine DR.stepV [_, _, _, _, _, _, _, _, _, _, _, _, _, _, _, _, _, _, _, _, _, _] rfl [(125, _, some 19), (126, _, some 20), (124, _, some 18)] rfl rfl ⟨⟨rfl, rfl, rfl⟩, ⟨rfl, rfl, rfl⟩, ⟨rfl, rfl, rfl⟩, trivial⟩ (fun ext => TL.on rfl rfl rfl (decide_eq_false (by have := hu1 hjR hc1; omega)) <| TL.indexAddr hF rfl rfl ((hnf a haR).1) (by omega) (by omega) rfl TL.fin) ?_
              refine DR.stepV [_, _, _, _, _, _, _, _, _, _, _, _, _, _, _, _, _, _, _, _, _, _, _] rfl [(127, _, some 21), (124, _, some 18)] rfl rfl ⟨⟨rfl, rfl, rfl⟩, ⟨rfl, rfl, rfl⟩, trivial⟩ (fun ext => TL.on rfl rfl rfl (decide_eq_false (by have := hu1 hjR hc1; omega)) <| TL.load hF rfl (by rw [Int.toNat_natCast]; exact (hnf a haR).2.1) rfl TL.fin) ?_
              refine DR.stepV [_, _, _, _, _, _, _, _, _, _, _, _, _, _, _, _, _, _, _, _, _, _, _, _] rfl [(18, _, none), (124, _, some 18)] rfl rfl ⟨⟨rfl, by kernel_rfl⟩, ⟨rfl, rfl, rfl⟩, trivial⟩ (fun ext => TL.on rfl rfl rfl (decide_eq_false (by have := hu1 hjR hc1; omega)) <| TL.move hF rfl rfl TL.fin) ?_
              refine DR.stepV [_, _, _, _, _, _, _, _, _, _, _, _, _, _, _, _, _, _, _, _, _, _, _, _, _] rfl [(128, _, some 22), (129, _, some 23), (124, _, some 18)] rfl rfl ⟨⟨rfl, rfl, rfl⟩, ⟨rfl, rfl, rfl⟩, ⟨rfl, rfl, rfl⟩, trivial⟩ (fun ext => TL.on rfl rfl rfl (decide_eq_false (by have := hu1 hjR hc1; omega)) <| TL.indexAddr hF rfl rfl (hnA a haR) (by omega) (by omega) rfl TL.fin) ?_
              refine DR.stepV [_, _, _, _, _, _, _, _, _, _, _, _, _, _, _, _, _, _, _, _, _, _, _, _, _, _] rfl [(130, _, some 24), (124, _, some 18)] rfl rfl ⟨⟨rfl, rfl, rfl⟩, ⟨rfl, rfl, rfl⟩, trivial⟩ (fun ext => TL.on rfl rfl rfl (decide_eq_false (by have := hu1 hjR hc1; omega)) <| TL.load hF rfl (by rw [Int.toNat_natCast]; exact hnE a j haR hjR) rfl TL.fin) ?_
              refine DR.stepV [_, _, _, _, _, _, _, _, _, _, _, _, _, _, _, _, _, _, _, _, _, _, _, _, _, _, _] rfl [(131, _, some 25), (124, _, some 18)] rfl rfl ⟨⟨rfl, rfl, rfl⟩, ⟨rfl, rfl, rfl⟩, trivial⟩ (fun ext => TL.on rfl rfl rfl (decide_eq_false (by have := hu1 hjR hc1; omega)) <| TL.move hF rfl rfl TL.fin) ?_
              refine DR.stepV [_, _, _, _, _, _, _, _, _, _, _, _, _, _, _, _, _, _, _, _, _, _, _, _, _, _, _, _] rfl [(9, _, none), (132, _, some 26)] rfl rfl ⟨⟨rfl, by kernel_rfl⟩, ⟨rfl, rfl, rfl⟩, trivial⟩ (fun ext => TL.off hF rfl rfl rfl hc2 rfl TL.fin) ?_
              refine DR.stepV [_, _, _, _, _, _, _, _, _, _, _, _, _, _, _, _, _, _, _, _, _, _, _, _, _, _, _, _, _] rfl [(18, _, none), (132, _, some 26)] rfl rfl ⟨⟨rfl, by kernel_rfl⟩, ⟨rfl, rfl, rfl⟩, trivial⟩ (fun ext => TL.off hF rfl rfl rfl hc2 rfl TL.fin) ?_
              refine DR.stepV [_, _, _, _, _, _, _, _, _, _, _, _, _, _, _, _, _, _, _, _, _, _, _, _, _, _, _, _, _, _] rfl [(133, _, some 27), (134, _, some 28), (132, _, some 26)] rfl rfl ⟨⟨rfl, rfl, rfl⟩, ⟨rfl, rfl, rfl⟩, ⟨rfl, rfl, rfl⟩, trivial⟩ (fun ext => TL.off hF rfl rfl rfl hc2 rfl TL.fin) ?_
              refine DR.stepV [_, _, _, _, _, _, _, _, _, _, _, _, _, _, _, _, _, _, _, _, _, _, _, _, _, _, _, _, _, _, _] rfl [(135, _, some 29), (132, _, some 26)] rfl rfl ⟨⟨rfl, rfl, rfl⟩, ⟨rfl, rfl, rfl⟩, trivial⟩ (fun ext => TL.off hF rfl rfl rfl hc2 rfl TL.fin) ?_
              refine DR.stepV [_, _, _, _, _, _, _, _, _, _, _, _, _, _, _, _, _, _, _, _, _, _, _, _, _, _, _, _, _, _, _, _] rfl [(9, _, none), (132, _, some 26)] rfl rfl ⟨⟨rfl, by kernel_rfl⟩, ⟨rfl, rfl, rfl⟩, trivial⟩ (fun ext => TL.off hF rfl rfl rfl hc2 rfl TL.fin) ?_
              refine DR.stepV [_, _, _, _, _, _, _, _, _, _, _, _, _, _, _, _, _, _, _, _, _, _, _, _, _, _, _, _, _, _, _, _, _] rfl [(17, _, none), (132, _, some 26)] rfl rfl ⟨⟨rfl, by kernel_rfl⟩, ⟨rfl, rfl, rfl⟩, trivial⟩ (fun ext => TL.off hF rfl rfl rfl hc2 rfl TL.fin) ?_
              refine DR.stepV [_, _, _, _, _, _, _, _, _, _, _, _, _, _, _, _, _, _, _, _, _, _, _, _, _, _, _, _, _, _, _, _, _, _] rfl [(137, _, some 31), (138, _, some 32), (132, _, some 26)] rfl rfl ⟨⟨rfl, rfl, rfl⟩, ⟨rfl, rfl, rfl⟩, ⟨rfl, rfl, rfl⟩, trivial⟩ (fun ext => TL.off hF rfl rfl rfl hc2 rfl TL.fin) ?_
              refine DR.stepV [_, _, _, _, _, _, _, _, _, _, _, _, _, _, _, _, _, _, _, _, _, _, _, _, _, _, _, _, _, _, _, _, _, _, _] rfl [(139, _, some 33), (132, _, some 26)] rfl rfl ⟨⟨rfl, rfl, rfl⟩, ⟨rfl, rfl, rfl⟩, trivial⟩ (fun ext => TL.off hF rfl rfl rfl hc2 rfl TL.fin) ?_
              refine DR.done [(140, _), (139, _), (138, _), (137, _), (136, _), (135, _), (134, _), (133, _), (132, _), (131, _), (130, _), (129, _), (128, _), (127, _), (126, _), (125, _), (124, _), (123, _), (122, _), (121, _), (120, _), (119, _), (118, _), (117, _), (116, _), (115, _), (114, _), (113, _), (112, _), (111, _), (110, _), (109, _), (108, _), (107, _), (106, _)] [_, _, _] mixed (by kernel_rfl) (by kernel_rfl) (by kernel_rfl) rfl rfl ?_
              refine TL.off hF rfl rfl rfl hc2 rfl ?_
              refine TL.on rfl rfl rfl (decide_eq_false (by have := hu1 hjR hc1; omega)) ?_
              refine TL.pickF hF rfl hc2 rfl rfl ?_
              refine TL.pickF hF rfl (decide_eq_false (by have := hu1 hjR hc1; omega)) rfl rfl ?_
              refine TL.nil ?_
              refine TQ.then_n ?_
              refine T.cond_f rfl rfl ?_
              refine T.skip ?_
              refine TQ.then_n ?_
              refine T.seq ?_
              refine T.seq ?_
              refine T.region ?_
              refine TL.move hF rfl rfl ?_
              refine TL.move hF rfl rfl ?_
              refine TL.indexAddr hF rfl rfl ((htf a haR).1) (by omega) (by omega) rfl ?_
              refine TL.load hF rfl (by rw [Int.toNat_natCast]; exact (htf a haR).2.1) rfl ?_
              refine TL.move hF rfl rfl ?_
              refine TL.indexAddr hF rfl rfl (htA a haR) (by omega) (by omega) rfl ?_
              refine TL.load hF rfl (by rw [Int.toNat_natCast]; exact htE a j haR hjR) rfl ?_
              refine TL.move hF rfl rfl ?_
              refine TL.on rfl rfl rfl hc1 ?_
              refine TL.move hF rfl rfl ?_
              refine TL.on rfl rfl rfl hc1 ?_
              refine TL.move hF rfl rfl ?_
              refine TL.on rfl rfl rfl hc1 ?_
              refine TL.callV hF (WhereN_fn (xs := own) j hor (by omega)) rfl rfl ?_
              refine TL.on rfl rfl rfl hc1 ?_
              refine TL.bin hF rfl rfl rfl rfl ?_
              refine TL.on rfl rfl rfl hc1 ?_
              refine TL.not hF rfl rfl ?_
              refine TL.pickT hF rfl hc1 rfl rfl ?_
              refine TL.nil ?_
              refine TQ.then_n ?_
              refine T.cond _ rfl (fun ht157 => ?_) (fun ht157 => ?_)
              · refine T.region ?_
                refine TL.move hF rfl rfl ?_
                refine TL.move hF rfl rfl ?_
                refine TL.move hF rfl rfl ?_
                refine TL.indexAddr hF rfl rfl hLad (by omega) (by omega) rfl ?_
                refine TL.load hF rfl (v := .int .i64 (L j)) (by rw [Int.toNat_natCast]; exact hLat j (by omega)) rfl ?_
                refine TL.max2 hF rfl rfl rfl ?_
                refine TL.assign hF rfl rfl ?_
                refine TL.nil ?_
                refine TQ.then_n ?_
                refine T.seq ?_
                refine T.region ?_
                refine TL.move hF rfl rfl ?_
                refine TL.move hF rfl rfl ?_
                refine TL.indexAddr hF rfl rfl ((hnf a haR).1) (by omega) (by omega) rfl ?_
                refine TL.load hF rfl (by rw [Int.toNat_natCast]; exact (hnf a haR).2.1) rfl ?_
                refine TL.move hF rfl rfl ?_
                refine TL.indexAddr hF rfl rfl (hnA a haR) (by omega) (by omega) rfl ?_
                refine TL.load hF rfl (by rw [Int.toNat_natCast]; exact hnE a j haR hjR) rfl ?_
                refine TL.nil ?_
                refine TQ.then_n ?_
                refine T.cond_f rfl hc2 ?_
                refine T.skip ?_
                refine TQ.block_n ?_
                refine TQ.then_n ?_
                refine T.region ?_
                refine TL.add hF rfl rfl (by omega) (by omega) rfl ?_
                refine TL.move hF rfl rfl ?_
                refine TL.nil ?_
                have hin : j ∉ own := by
                  have h2 := where_in (xs := own) (b := j)
                  simp at ht157; exact fun h3 => by have := h2.2 h3; omega
                have e : needA (EU rs) (ED rs) own L a (needB (EU rs) (ED rs) R own L (own.take k)) (j + 1) = max (needA (EU rs) (ED rs) own L a (needB (EU rs) (ED rs) R own L (own.take k)) j) (L j) := by
                  rw [needA_succ]; unfold needS; simp [hc1, hc2, hin]
                refine TQ.round (j + 1) (by omega) (by omega) ⟨rfl, rfl, rfl, rfl, rfl, rfl, rfl, rfl, rfl, by rw [e]; rfl, rfl, rfl, rfl, rfl, rfl, rfl, trivial⟩ rfl
              · refine T.skip ?_
                refine TQ.then_n ?_
                refine T.seq ?_
                refine T.region ?_
                refine TL.move hF rfl rfl ?_
                refine TL.move hF rfl rfl ?_
                refine TL.indexAddr hF rfl rfl ((hnf a haR).1) (by omega) (by omega) rfl ?_
                refine TL.load hF rfl (by rw [Int.toNat_natCast]; exact (hnf a haR).2.1) rfl ?_
                refine TL.move hF rfl rfl ?_
                refine TL.indexAddr hF rfl rfl (hnA a haR) (by omega) (by omega) rfl ?_
                refine TL.load hF rfl (by rw [Int.toNat_natCast]; exact hnE a j haR hjR) rfl ?_
                refine TL.nil ?_
                refine TQ.then_n ?_
                refine T.cond_f rfl hc2 ?_
                refine T.skip ?_
                refine TQ.block_n ?_
                refine TQ.then_n ?_
                refine T.region ?_
                refine TL.add hF rfl rfl (by omega) (by omega) rfl ?_
                refine TL.move hF rfl rfl ?_
                refine TL.nil ?_
                have hin : j ∈ own := by
                  have h2 := where_in (xs := own) (b := j)
                  simp at ht157; exact h2.1 ht157
                have e : needA (EU rs) (ED rs) own L a (needB (EU rs) (ED rs) R own L (own.take k)) (j + 1) = needA (EU rs) (ED rs) own L a (needB (EU rs) (ED rs) R own L (own.take k)) j := by
                  rw [needA_succ]; unfold needS; simp [hc1, hc2, hin]
                refine TQ.round (j + 1) (by omega) (by omega) ⟨rfl, rfl, rfl, rfl, rfl, rfl, rfl, rfl, rfl, by rw [e]; rfl, rfl, rfl, rfl, rfl, rfl, rfl, trivial⟩ rfl
            · have hjR : j < R := by have h : (j : Int) < R := ht104; omega
              refine T.draw ?_
              refine DR.stepV [_] rfl [(11, _, none)] rfl rfl ⟨⟨rfl, by kernel_rfl⟩, trivial⟩ (fun ext => TL.move hF rfl rfl TL.fin) ?_
              refine DR.stepV [_, _] rfl [(17, _, none)] rfl rfl ⟨⟨rfl, by kernel_rfl⟩, trivial⟩ (fun ext => TL.move hF rfl rfl TL.fin) ?_
              refine DR.stepV [_, _, _] rfl [(106, _, some 0), (107, _, some 1)] rfl rfl ⟨⟨rfl, rfl, rfl⟩, ⟨rfl, rfl, rfl⟩, trivial⟩ (fun ext => TL.indexAddr hF rfl rfl ((htf a haR).1) (by omega) (by omega) rfl TL.fin) ?_
              refine DR.stepV [_, _, _, _] rfl [(108, _, some 2)] rfl rfl ⟨⟨rfl, rfl, rfl⟩, trivial⟩ (fun ext => TL.load hF rfl (by rw [Int.toNat_natCast]; exact (htf a haR).2.1) rfl TL.fin) ?_
              refine DR.stepV [_, _, _, _, _] rfl [(18, _, none)] rfl rfl ⟨⟨rfl, by kernel_rfl⟩, trivial⟩ (fun ext => TL.move hF rfl rfl TL.fin) ?_
              refine DR.stepV [_, _, _, _, _, _] rfl [(109, _, some 3), (110, _, some 4)] rfl rfl ⟨⟨rfl, rfl, rfl⟩, ⟨rfl, rfl, rfl⟩, trivial⟩ (fun ext => TL.indexAddr hF rfl rfl (htA a haR) (by omega) (by omega) rfl TL.fin) ?_
              refine DR.stepV [_, _, _, _, _, _, _] rfl [(111, _, some 5)] rfl rfl ⟨⟨rfl, rfl, rfl⟩, trivial⟩ (fun ext => TL.load hF rfl (by rw [Int.toNat_natCast]; exact htE a j haR hjR) rfl TL.fin) ?_
              refine DR.stepV [_, _, _, _, _, _, _, _] rfl [(112, _, some 6)] rfl rfl ⟨⟨rfl, rfl, rfl⟩, trivial⟩ (fun ext => TL.move hF rfl rfl TL.fin) ?_
              refine DR.stepV [_, _, _, _, _, _, _, _, _] rfl [(9, _, none), (113, _, some 7)] rfl rfl ⟨⟨rfl, by kernel_rfl⟩, ⟨rfl, rfl, rfl⟩, trivial⟩ (fun ext => TL.off hF rfl rfl rfl hc1 rfl TL.fin) ?_
              refine DR.stepV [_, _, _, _, _, _, _, _, _, _] rfl [(18, _, none), (113, _, some 7)] rfl rfl ⟨⟨rfl, by kernel_rfl⟩, ⟨rfl, rfl, rfl⟩, trivial⟩ (fun ext => TL.off hF rfl rfl rfl hc1 rfl TL.fin) ?_
              refine DR.stepV [_, _, _, _, _, _, _, _, _, _, _] rfl [(114, _, some 8), (115, _, some 9), (113, _, some 7)] rfl rfl ⟨⟨rfl, rfl, rfl⟩, ⟨rfl, rfl, rfl⟩, ⟨rfl, rfl, rfl⟩, trivial⟩ (fun ext => TL.off hF rfl rfl rfl hc1 rfl TL.fin) ?_
              refine DR.stepV [_, _, _, _, _, _, _, _, _, _, _, _] rfl [(116, _, some 10), (113, _, some 7)] rfl rfl ⟨⟨rfl, rfl, rfl⟩, ⟨rfl, rfl, rfl⟩, trivial⟩ (fun ext => TL.off hF rfl rfl rfl hc1 rfl TL.fin) ?_
              refine DR.stepV [_, _, _, _, _, _, _, _, _, _, _, _, _] rfl [(9, _, none), (113, _, some 7)] rfl rfl ⟨⟨rfl, by kernel_rfl⟩, ⟨rfl, rfl, rfl⟩, trivial⟩ (fun ext => TL.off hF rfl rfl rfl hc1 rfl TL.fin) ?_
              refine DR.stepV [_, _, _, _, _, _, _, _, _, _, _, _, _, _] rfl [(17, _, none), (113, _, some 7)] rfl rfl ⟨⟨rfl, by kernel_rfl⟩, ⟨rfl, rfl, rfl⟩, trivial⟩ (fun ext => TL.off hF rfl rfl rfl hc1 rfl TL.fin) ?_
              refine DR.stepV [_, _, _, _, _, _, _, _, _, _, _, _, _, _, _] rfl [(118, _, some 12), (119, _, some 13), (113, _, some 7)] rfl rfl ⟨⟨rfl, rfl, rfl⟩, ⟨rfl, rfl, rfl⟩, ⟨rfl, rfl, rfl⟩, trivial⟩ (fun ext => TL.off hF rfl rfl rfl hc1 rfl TL.fin) ?_
              refine DR.stepV [_, _, _, _, _, _, _, _, _, _, _, _, _, _, _, _] rfl [(120, _, some 14), (113, _, some 7)] rfl rfl ⟨⟨rfl, rfl, rfl⟩, ⟨rfl, rfl, rfl⟩, trivial⟩ (fun ext => TL.off hF rfl rfl rfl hc1 rfl TL.fin) ?_
              refine DR.stepV [_, _, _, _, _, _, _, _, _, _, _, _, _, _, _, _, _] rfl [(117, _, some 11), (121, _, some 15), (113, _, some 7)] rfl rfl ⟨⟨rfl, rfl, rfl⟩, ⟨rfl, rfl, rfl⟩, ⟨rfl, rfl, rfl⟩, trivial⟩ (fun ext => TL.off hF rfl rfl rfl hc1 rfl TL.fin) ?_
              refine DR.stepV [_, _, _, _, _, _, _, _, _, _, _, _, _, _, _, _, _, _] rfl [(113, _, some 7), (122, _, some 16)] rfl rfl ⟨⟨rfl, rfl, rfl⟩, ⟨rfl, rfl, rfl⟩, trivial⟩ (fun ext => TL.pickF hF rfl hc1 rfl rfl TL.fin) ?_
              refine DR.stepV [_, _, _, _, _, _, _, _, _, _, _, _, _, _, _, _, _, _, _] rfl [(123, _, some 17)] rfl rfl ⟨⟨rfl, rfl, rfl⟩, trivial⟩ (fun ext => TL.move hF rfl rfl TL.fin) ?_
              refine DR.stepV [_, _, _, _, _, _, _, _, _, _, _, _, _, _, _, _, _, _, _, _] rfl [(12, _, none), (124, _, some 18)] rfl rfl ⟨⟨rfl, by kernel_rfl⟩, ⟨rfl, rfl, rfl⟩, trivial⟩ (fun ext => TL.on rfl rfl rfl rfl <| TL.move hF rfl rfl TL.fin) ?_
              refine DR.stepV [_, _, _, _, _, _, _, _, _, _, _, _, _, _, _, _, _, _, _, _, _] rfl [(17, _, none), (124, _, some 18)] rfl rfl ⟨⟨rfl, by kernel_rfl⟩, ⟨rfl, rfl, rfl⟩, trivial⟩ (fun ext => TL.on rfl rfl rfl rfl <| TL.move hF rfl rfl TL.fin) ?_
              refine DR.stepV [_, _, _, _, _, _, _, _, _, _, _, _, _, _, _, _, _, _, _, _, _, _] rfl [(125, _, some 19), (126, _, some 20), (124, _, some 18)] rfl rfl ⟨⟨rfl, rfl, rfl⟩, ⟨rfl, rfl, rfl⟩, ⟨rfl, rfl, rfl⟩, trivial⟩ (fun ext => TL.on rfl rfl rfl rfl <| TL.indexAddr hF rfl rfl ((hnf a haR).1) (by omega) (by omega) rfl TL.fin) ?_
              refine DR.stepV [_, _, _, _, _, _, _, _, _, _, _, _, _, _, _, _, _, _, _, _, _, _, _] rfl [(127, _, some 21), (124, _, some 18)] rfl rfl ⟨⟨rfl, rfl, rfl⟩, ⟨rfl, rfl, rfl⟩, trivial⟩ (fun ext => TL.on rfl rfl rfl rfl <| TL.load hF rfl (by rw [Int.toNat_natCast]; exact (hnf a haR).2.1) rfl TL.fin) ?_
              refine DR.stepV [_, _, _, _, _, _, _, _, _, _, _, _, _, _, _, _, _, _, _, _, _, _, _, _] rfl [(18, _, none), (124, _, some 18)] rfl rfl ⟨⟨rfl, by kernel_rfl⟩, ⟨rfl, rfl, rfl⟩, trivial⟩ (fun ext => TL.on rfl rfl rfl rfl <| TL.move hF rfl rfl TL.fin) ?_
              refine DR.stepV [_, _, _, _, _, _, _, _, _, _, _, _, _, _, _, _, _, _, _, _, _, _, _, _, _] rfl [(128, _, some 22), (129, _, some 23), (124, _, some 18)] rfl rfl ⟨⟨rfl, rfl, rfl⟩, ⟨rfl, rfl, rfl⟩, ⟨rfl, rfl, rfl⟩, trivial⟩ (fun ext => TL.on rfl rfl rfl rfl <| TL.indexAddr hF rfl rfl (hnA a haR) (by omega) (by omega) rfl TL.fin) ?_
              refine DR.stepV [_, _, _, _, _, _, _, _, _, _, _, _, _, _, _, _, _, _, _, _, _, _, _, _, _, _] rfl [(130, _, some 24), (124, _, some 18)] rfl rfl ⟨⟨rfl, rfl, rfl⟩, ⟨rfl, rfl, rfl⟩, trivial⟩ (fun ext => TL.on rfl rfl rfl rfl <| TL.load hF rfl (by rw [Int.toNat_natCast]; exact hnE a j haR hjR) rfl TL.fin) ?_
              refine DR.stepV [_, _, _, _, _, _, _, _, _, _, _, _, _, _, _, _, _, _, _, _, _, _, _, _, _, _, _] rfl [(131, _, some 25), (124, _, some 18)] rfl rfl ⟨⟨rfl, rfl, rfl⟩, ⟨rfl, rfl, rfl⟩, trivial⟩ (fun ext => TL.on rfl rfl rfl rfl <| TL.move hF rfl rfl TL.fin) ?_
              refine DR.stepV [_, _, _, _, _, _, _, _, _, _, _, _, _, _, _, _, _, _, _, _, _, _, _, _, _, _, _, _] rfl [(9, _, none), (132, _, some 26)] rfl rfl ⟨⟨rfl, by kernel_rfl⟩, ⟨rfl, rfl, rfl⟩, trivial⟩ (fun ext => TL.off hF rfl rfl rfl hc2 rfl TL.fin) ?_
              refine DR.stepV [_, _, _, _, _, _, _, _, _, _, _, _, _, _, _, _, _, _, _, _, _, _, _, _, _, _, _, _, _] rfl [(18, _, none), (132, _, some 26)] rfl rfl ⟨⟨rfl, by kernel_rfl⟩, ⟨rfl, rfl, rfl⟩, trivial⟩ (fun ext => TL.off hF rfl rfl rfl hc2 rfl TL.fin) ?_
              refine DR.stepV [_, _, _, _, _, _, _, _, _, _, _, _, _, _, _, _, _, _, _, _, _, _, _, _, _, _, _, _, _, _] rfl [(133, _, some 27), (134, _, some 28), (132, _, some 26)] rfl rfl ⟨⟨rfl, rfl, rfl⟩, ⟨rfl, rfl, rfl⟩, ⟨rfl, rfl, rfl⟩, trivial⟩ (fun ext => TL.off hF rfl rfl rfl hc2 rfl TL.fin) ?_
              refine DR.stepV [_, _, _, _, _, _, _, _, _, _, _, _, _, _, _, _, _, _, _, _, _, _, _, _, _, _, _, _, _, _, _] rfl [(135, _, some 29), (132, _, some 26)] rfl rfl ⟨⟨rfl, rfl, rfl⟩, ⟨rfl, rfl, rfl⟩, trivial⟩ (fun ext => TL.off hF rfl rfl rfl hc2 rfl TL.fin) ?_
              refine DR.stepV [_, _, _, _, _, _, _, _, _, _, _, _, _, _, _, _, _, _, _, _, _, _, _, _, _, _, _, _, _, _, _, _] rfl [(9, _, none), (132, _, some 26)] rfl rfl ⟨⟨rfl, by kernel_rfl⟩, ⟨rfl, rfl, rfl⟩, trivial⟩ (fun ext => TL.off hF rfl rfl rfl hc2 rfl TL.fin) ?_
              refine DR.stepV [_, _, _, _, _, _, _, _, _, _, _, _, _, _, _, _, _, _, _, _, _, _, _, _, _, _, _, _, _, _, _, _, _] rfl [(17, _, none), (132, _, some 26)] rfl rfl ⟨⟨rfl, by kernel_rfl⟩, ⟨rfl, rfl, rfl⟩, trivial⟩ (fun ext => TL.off hF rfl rfl rfl hc2 rfl TL.fin) ?_
              refine DR.stepV [_, _, _, _, _, _, _, _, _, _, _, _, _, _, _, _, _, _, _, _, _, _, _, _, _, _, _, _, _, _, _, _, _, _] rfl [(137, _, some 31), (138, _, some 32), (132, _, some 26)] rfl rfl ⟨⟨rfl, rfl, rfl⟩, ⟨rfl, rfl, rfl⟩, ⟨rfl, rfl, rfl⟩, trivial⟩ (fun ext => TL.off hF rfl rfl rfl hc2 rfl TL.fin) ?_
              refine DR.stepV [_, _, _, _, _, _, _, _, _, _, _, _, _, _, _, _, _, _, _, _, _, _, _, _, _, _, _, _, _, _, _, _, _, _, _] rfl [(139, _, some 33), (132, _, some 26)] rfl rfl ⟨⟨rfl, rfl, rfl⟩, ⟨rfl, rfl, rfl⟩, trivial⟩ (fun ext => TL.off hF rfl rfl rfl hc2 rfl TL.fin) ?_
              refine DR.done [(140, _), (139, _), (138, _), (137, _), (136, _), (135, _), (134, _), (133, _), (132, _), (131, _), (130, _), (129, _), (128, _), (127, _), (126, _), (125, _), (124, _), (123, _), (122, _), (121, _), (120, _), (119, _), (118, _), (117, _), (116, _), (115, _), (114, _), (113, _), (112, _), (111, _), (110, _), (109, _), (108, _), (107, _), (106, _)] [_, _, _] mixed (by kernel_rfl) (by kernel_rfl) (by kernel_rfl) rfl rfl ?_
              refine TL.off hF rfl rfl rfl hc2 rfl ?_
              refine TL.on rfl rfl rfl rfl ?_
              refine TL.pickF hF rfl hc2 rfl rfl ?_
              refine TL.pickF hF rfl rfl rfl rfl ?_
              refine TL.nil ?_
              refine TQ.then_n ?_
              refine T.cond_f rfl rfl ?_
              refine T.skip ?_
              refine TQ.then_n ?_
              refine T.seq ?_
              refine T.seq ?_
              refine T.region ?_
              refine TL.move hF rfl rfl ?_
              refine TL.move hF rfl rfl ?_
              refine TL.indexAddr hF rfl rfl ((htf a haR).1) (by omega) (by omega) rfl ?_
              refine TL.load hF rfl (by rw [Int.toNat_natCast]; exact (htf a haR).2.1) rfl ?_
              refine TL.move hF rfl rfl ?_
              refine TL.indexAddr hF rfl rfl (htA a haR) (by omega) (by omega) rfl ?_
              refine TL.load hF rfl (by rw [Int.toNat_natCast]; exact htE a j haR hjR) rfl ?_
              refine TL.move hF rfl rfl ?_
              refine TL.off hF rfl rfl rfl hc1 rfl ?_
              refine TL.off hF rfl rfl rfl hc1 rfl ?_
              refine TL.off hF rfl rfl rfl hc1 rfl ?_
              refine TL.off hF rfl rfl rfl hc1 rfl ?_
              refine TL.off hF rfl rfl rfl hc1 rfl ?_
              refine TL.pickF hF rfl hc1 rfl rfl ?_
              refine TL.nil ?_
              refine TQ.then_n ?_
              refine T.cond_f rfl rfl ?_
              refine T.skip ?_
              refine TQ.then_n ?_
              refine T.seq ?_
              refine T.region ?_
              refine TL.move hF rfl rfl ?_
              refine TL.move hF rfl rfl ?_
              refine TL.indexAddr hF rfl rfl ((hnf a haR).1) (by omega) (by omega) rfl ?_
              refine TL.load hF rfl (by rw [Int.toNat_natCast]; exact (hnf a haR).2.1) rfl ?_
              refine TL.move hF rfl rfl ?_
              refine TL.indexAddr hF rfl rfl (hnA a haR) (by omega) (by omega) rfl ?_
              refine TL.load hF rfl (by rw [Int.toNat_natCast]; exact hnE a j haR hjR) rfl ?_
              refine TL.nil ?_
              refine TQ.then_n ?_
              refine T.cond_f rfl hc2 ?_
              refine T.skip ?_
              refine TQ.block_n ?_
              refine TQ.then_n ?_
              refine T.region ?_
              refine TL.add hF rfl rfl (by omega) (by omega) rfl ?_
              refine TL.move hF rfl rfl ?_
              refine TL.nil ?_
              have e : needA (EU rs) (ED rs) own L a (needB (EU rs) (ED rs) R own L (own.take k)) (j + 1) = needA (EU rs) (ED rs) own L a (needB (EU rs) (ED rs) R own L (own.take k)) j := by
                rw [needA_succ]; unfold needS; simp [hc1, hc2]
              refine TQ.round (j + 1) (by omega) (by omega) ⟨rfl, rfl, rfl, rfl, rfl, rfl, rfl, rfl, rfl, by rw [e]; rfl, rfl, rfl, rfl, rfl, rfl, rfl, trivial⟩ rfl
          · refine T.exit ?_
            refine TQ.then_x ?_
            refine TQ.then_x ?_
            refine TQ.block_x ?_
            refine TQ.block_n ?_
            refine TQ.then_n ?_
            refine T.region ?_
            refine TL.add hF rfl rfl (by omega) (by omega) rfl ?_
            refine TL.move hF rfl rfl ?_
            refine TL.nil ?_
            have hjR : j = R := by have h : ¬ (j : Int) < R := ht104; omega
            have e : needB (EU rs) (ED rs) R own L (own.take (k + 1)) = needA (EU rs) (ED rs) own L a (needB (EU rs) (ED rs) R own L (own.take k)) j := by
              rw [List.take_succ_eq_append_getElem hkl, ← ha, hnb, hjR]
            refine TQ.round (k + 1) (by omega) (by omega) ⟨rfl, rfl, rfl, rfl, rfl, rfl, rfl, rfl, rfl, by rw [e]; rfl, rfl, rfl, rfl, trivial⟩ rfl
        · refine T.exit ?_
          refine TQ.then_x ?_
          refine TQ.then_x ?_
          refine TQ.block_x ?_
          refine TQ.then_n ?_
          refine T.seq ?_
          refine T.region ?_
          refine TL.move hF rfl rfl ?_
          refine TL.len hF rfl rfl ?_
          refine TL.bin hF rfl rfl rfl rfl ?_
          refine TL.move hF rfl rfl ?_
          refine TL.on rfl rfl rfl (decide_eq_false (by have := hlk.ne own hmem; omega)) ?_
          have hne := hlk.ne own hmem
          obtain ⟨a0, ha0⟩ : ∃ a0, a0 = own[0] := ⟨_, rfl⟩
          have ha0o : a0 ∈ own := by rw [ha0]; exact List.getElem_mem _
          have ha0R := hlk.lt own hmem a0 ha0o
          have hfin : L a0 = needB (EU rs) (ED rs) R own L (own.take k) := by
            have hkl : k = own.length := by have h : ¬ (k : Int) < own.length := ht78; omega
            rw [hkl, List.take_length]; exact hlk.need own hmem a0 ha0o
          refine TL.move hF rfl rfl ?_
          refine TL.on rfl rfl rfl (decide_eq_false (by have := hlk.ne own hmem; omega)) ?_
          refine TL.move hF rfl rfl ?_
          refine TL.on rfl rfl rfl (decide_eq_false (by have := hlk.ne own hmem; omega)) ?_
          refine TL.indexAddr hF rfl rfl (hor.nad (i := 0) (by omega)) (by omega) (by omega) rfl ?_
          refine TL.on rfl rfl rfl (decide_eq_false (by have := hlk.ne own hmem; omega)) ?_
          refine TL.load hF rfl (v := .int .i64 (a0 : Int)) (by rw [ha0]; exact hor.nat (i := 0) (by omega)) rfl ?_
          refine TL.on rfl rfl rfl (decide_eq_false (by have := hlk.ne own hmem; omega)) ?_
          refine TL.indexAddr hF rfl rfl hLad (by omega) (by omega) rfl ?_
          refine TL.on rfl rfl rfl (decide_eq_false (by have := hlk.ne own hmem; omega)) ?_
          refine TL.load hF rfl (v := .int .i64 (L a0)) (by rw [Int.toNat_natCast]; exact hLat a0 (by omega)) rfl ?_
          refine TL.on rfl rfl rfl (decide_eq_false (by have := hlk.ne own hmem; omega)) ?_
          refine TL.move hF rfl rfl ?_
          refine TL.on rfl rfl rfl (decide_eq_false (by have := hlk.ne own hmem; omega)) ?_
          refine TL.bin hF rfl rfl rfl rfl ?_
          refine TL.pickF hF rfl (decide_eq_false (by have := hlk.ne own hmem; omega)) rfl rfl ?_
          refine TL.nil ?_
          refine TQ.then_n ?_
          refine T.cond_f rfl (decide_eq_false (by rw [hfin]; simp)) ?_
          refine T.skip ?_
          refine TQ.block_n ?_
          refine TQ.then_n ?_
          refine T.region ?_
          refine TL.add hF rfl rfl (by omega) (by omega) rfl ?_
          refine TL.move hF rfl rfl ?_
          refine TL.nil ?_
          exact TQ.round (i + 1) (by omega) (by omega) ⟨rfl, rfl, rfl, rfl, rfl, rfl, rfl, rfl, trivial⟩ rfl
      · refine T.exit ?_
        refine TQ.then_x ?_
        refine TQ.then_x ?_
        refine TQ.block_x ?_
        refine TQ.then_n ?_
        refine T.seq ?_
        refine T.region ?_
        refine TL.call hF awake_fn rfl rfl ?_
        rintro _ _ rfl
        refine TL.assign hF rfl rfl ?_
        refine TL.nil ?_
        refine TQ.then_n ?_
        refine T.ret ?_
        exact TQ.retsF [4] _ hb rfl rfl rfl (fun _ => rfl)
end Go.Proofs.Ytdehpaikapbckaa
/- Cycles of denial, and the places of relations: plain Lean. -/
namespace Go.Proofs.Ytdehpaikapbckaa
open Go.Sl
theorem nextS_spec {E : Nat → Nat → Bool} {n t r : Nat} {d : Nat → Int} (h : IsDist E n t d) (hr : r < n) (hd : 0 < d r) : nextS E n d r < n ∧ d (nextS E n d r) = d r - 1 ∧ E r (nextS E n d r) = true := by
  obtain ⟨b, hb, he, hdb⟩ := h.dn r hr hd
  unfold nextS
  cases hf : (List.range n).find? fun b => decide (d b = d r - 1) && E r b with
  | none =>
    have := List.find?_eq_none.1 hf b (by simpa using hb)
    simp [hdb, he] at this
  | some x =>
    have h1 := List.find?_some hf
    have h2 := List.mem_of_find?_eq_some hf
    simp only [Bool.and_eq_true, decide_eq_true_eq] at h1
    exact ⟨by simpa using h2, h1.1, h1.2⟩
theorem way_at {E : Nat → Nat → Bool} {n t : Nat} {d : Nat → Int} (h : IsDist E n t d) : ∀ (k r : Nat), r < n → d r = k → ∀ i (hi : i < (wayS E n d k r).length), (wayS E n d k r)[i] < n ∧ d (wayS E n d k r)[i] = (k : Int) - i ∧ (i = 0 → (wayS E n d k r)[i] = r) ∧ ((hj : i + 1 < (wayS E n d k r).length) → E (wayS E n d k r)[i] (wayS E n d k r)[i + 1] = true) ∧ (i + 1 = k → E (wayS E n d k r)[i] t = true)
  | 0, r, _, _, i, hi => by simp [wayS] at hi
  | k + 1, r, hr, hd, i, hi => by
    obtain ⟨h1, h2, h3⟩ := nextS_spec h hr (by omega)
    have ih := way_at h k (nextS E n d r) h1 (by omega)
    have hlen := wayS_len E n d k (nextS E n d r)
    cases i with
    | zero =>
      simp only [wayS, List.getElem_cons_zero]
      refine ⟨hr, by omega, fun _ => by trivial, fun hj => ?_, fun hk => ?_⟩
      · simp only [List.length_cons] at hj
        have h5 := ih 0 (by omega)
        rw [show (r :: wayS E n d k (nextS E n d r))[0 + 1] = (wayS E n d k (nextS E n d r))[0]'(by omega) from rfl, h5.2.2.1 rfl]
        exact h3
      · have hk0 : k = 0 := by omega
        subst hk0
        have : nextS E n d r = t := h.zt _ h1 (by rw [h2, hd]; simp)
        rw [← this]; exact h3
    | succ i =>
      have hi' : i < (wayS E n d k (nextS E n d r)).length := by simpa [wayS] using hi
      have h5 := ih i hi'
      simp only [wayS, List.getElem_cons_succ]
      refine ⟨h5.1, by rw [h5.2.1]; push_cast; omega, fun h0 => by omega, fun hj => ?_, fun hk => h5.2.2.2.2 (by omega)⟩
      simp only [List.length_cons] at hj
      exact h5.2.2.2.1 (by omega)
/-- What the law asks of a cycle. -/
structure CycOk (E D : Nat → Nat → Bool) (n : Nat) (c : List Nat) : Prop where
  pos : 0 < c.length
  lt : ∀ x ∈ c, x < n
  nd : c.Nodup
  to : ∀ i (hi : i < c.length), E c[i] (c[(i + 1) % c.length]'(Nat.mod_lt _ pos)) = true
  den : D (c[0]'pos) (c[1 % c.length]'(Nat.mod_lt _ pos)) = true
theorem cand_ok {E D : Nat → Nat → Bool} {n a b : Nat} (hDE : ∀ a b, D a b = true → E a b = true) (ha : a < n) (hb : b < n) (hd : D a b = true) (h0 : 0 ≤ distS E n a b) : CycOk E D n (candS E n a b) := by
  have hI := distS_is (E := E) ha
  obtain ⟨k, hk⟩ : ∃ k : Nat, distS E n a b = k := ⟨_, (Int.toNat_of_nonneg h0).symm⟩
  have hw := way_at hI k b hb hk
  have hlen := wayS_len E n (distS E n a) k b
  have hc : candS E n a b = a :: wayS E n (distS E n a) k b := by unfold candS; rw [hk, Int.toNat_natCast]
  rw [hc]
  cases k with
  | zero =>
    have : b = a := hI.zt b hb (by simpa using hk)
    subst this
    refine ⟨by simp, by simp [wayS, ha], by simp [wayS], fun i hi => ?_, ?_⟩
    · have hi0 : i = 0 := by simp [wayS] at hi; omega
      subst hi0
      have := hDE b b hd
      simpa [wayS] using this
    · simpa [wayS] using hd
  | succ k =>
    obtain ⟨w, hwe⟩ : ∃ w, w = wayS E n (distS E n a) (k + 1) b := ⟨_, rfl⟩
    rw [← hwe] at hw hlen ⊢
    have hne : ∀ i (hi : i < w.length), w[i] ≠ a := fun i hi e => by
      have := (hw i hi).2.1
      rw [e, hI.z] at this; omega
    refine ⟨by simp, fun x hx => ?_, ?_, fun i hi => ?_, ?_⟩
    · rcases List.mem_cons.1 hx with rfl | hx
      · exact ha
      · obtain ⟨i, hi, rfl⟩ := List.mem_iff_getElem.1 hx
        exact (hw i hi).1
    · refine List.nodup_cons.2 ⟨fun hm => ?_, ?_⟩
      · obtain ⟨i, hi, e⟩ := List.mem_iff_getElem.1 hm
        exact hne i hi e
      · rw [List.Nodup, List.pairwise_iff_getElem]
        intro i j hi hj hij e
        have h1 := (hw i hi).2.1
        have h2 := (hw j hj).2.1
        rw [e, h2] at h1; omega
    · have hl : (a :: w).length = k + 2 := by simp [hlen]
      cases i with
      | zero =>
        have e1 : (0 + 1) % (a :: w).length = 1 := by rw [hl]; exact Nat.mod_eq_of_lt (by omega)
        have e2 : (a :: w)[(0 + 1) % (a :: w).length]'(Nat.mod_lt _ (by simp)) = w[0]'(by omega) := by simp only [e1]; rfl
        rw [e2, (hw 0 (by omega)).2.2.1 rfl]
        exact hDE a b hd
      | succ i =>
        have hi' : i < w.length := by simpa using hi
        by_cases hlast : i + 1 = w.length
        · have e1 : (i + 1 + 1) % (a :: w).length = 0 := by rw [show i + 1 + 1 = (a :: w).length by simp; omega]; exact Nat.mod_self _
          have e2 : (a :: w)[(i + 1 + 1) % (a :: w).length]'(Nat.mod_lt _ (by simp)) = a := by simp only [e1]; rfl
          rw [e2]
          exact (hw i hi').2.2.2.2 (by omega)
        · have e1 : (i + 1 + 1) % (a :: w).length = i + 1 + 1 := Nat.mod_eq_of_lt (by simp; omega)
          have e2 : (a :: w)[(i + 1 + 1) % (a :: w).length]'(Nat.mod_lt _ (by simp)) = w[i + 1]'(by omega) := by simp only [e1]; rfl
          rw [e2]
          exact (hw i hi').2.2.2.1 (by omega)
    · have hl : (a :: w).length = k + 2 := by simp [hlen]
      have e1 : 1 % (a :: w).length = 1 := by rw [hl]; exact Nat.mod_eq_of_lt (by omega)
      have e2 : (a :: w)[1 % (a :: w).length]'(Nat.mod_lt _ (by simp)) = w[0]'(by omega) := by simp only [e1]; rfl
      rw [e2, (hw 0 (by omega)).2.2.1 rfl]
      exact hd
theorem dist_iff {E : Nat → Nat → Bool} {n a b : Nat} (ha : a < n) (hb : b < n) : 0 ≤ distS E n a b ↔ a = b ∨ fwM E n b a = true := by
  have hI := distS_is (E := E) ha
  constructor
  · intro h0
    have key : ∀ (k : Nat) (x : Nat), x < n → distS E n a x = k → a = x ∨ fwM E n x a = true := by
      intro k
      induction k with
      | zero => intro x hx h; exact .inl (hI.zt x hx (by simpa using h)).symm
      | succ k ih =>
        intro x hx h
        obtain ⟨y, hy, he, hd⟩ := hI.dn x hx (by omega)
        rcases ih y hy (by omega) with rfl | h2
        · exact .inr (fw_E he)
        · exact .inr (fw_trans hy (fw_E he) h2)
    exact key _ b hb (Int.toNat_of_nonneg h0).symm
  · rintro (rfl | h)
    · rw [hI.z]; exact Int.le_refl _
    · apply Classical.byContradiction
      intro hn
      have := fw_least (E := E) (n := n) (fun y => ¬ 0 ≤ distS E n a y) (fun x y hx hy h3 h4 h5 => h3 (hI.up x y hx hy h4 h5).1) (Nat.le_refl n) hb ha hn h
      exact this (by rw [hI.z]; exact Int.le_refl _)
/-- What is known of the best cycle behind some pairs. -/
def BestInv (E D : Nat → Nat → Bool) (n : Nat) (P : Nat → Nat → Prop) (best : List Nat) : Prop :=
  (best = [] ∨ ∃ a b, a < n ∧ b < n ∧ D a b = true ∧ 0 ≤ distS E n a b ∧ best = candS E n a b) ∧ ∀ a b, P a b → D a b = true → 0 ≤ distS E n a b → 0 < best.length ∧ (best.length : Int) ≤ 1 + distS E n a b
theorem cand_len {E : Nat → Nat → Bool} {n a b : Nat} (h : 0 ≤ distS E n a b) : ((candS E n a b).length : Int) = 1 + distS E n a b := by
  unfold candS; simp only [List.length_cons, wayS_len]; omega
theorem BestInv.step {E D : Nat → Nat → Bool} {n a b : Nat} {P : Nat → Nat → Prop} {best : List Nat} (ha : a < n) (hb : b < n) (h : BestInv E D n P best) : BestInv E D n (fun x y => P x y ∨ (x = a ∧ y = b)) (tryS E D n a best b) := by
  unfold tryS
  by_cases hc : D a b = true ∧ 0 ≤ distS E n a b
  · rw [if_pos hc]
    have hcl := cand_len hc.2
    unfold betterS
    by_cases hl : best.length = 0 ∨ less (casts (candS E n a b)) (casts best) = true
    · rw [if_pos hl]
      refine ⟨.inr ⟨a, b, ha, hb, hc.1, hc.2, rfl⟩, fun x y hp hd h0 => ⟨by omega, ?_⟩⟩
      rcases hp with hp | ⟨rfl, rfl⟩
      · have h2 := h.2 x y hp hd h0
        rcases hl with hl | hl
        · omega
        · have : (candS E n a b).length ≤ best.length := by
            unfold less casts at hl
            simp only [List.length_map] at hl
            split at hl
            · have := of_decide_eq_true hl; omega
            · omega
          omega
      · omega
    · rw [if_neg hl]
      refine ⟨h.1, fun x y hp hd h0 => ?_⟩
      rcases hp with hp | ⟨rfl, rfl⟩
      · exact h.2 x y hp hd h0
      · have hn : best.length ≤ (candS E n x y).length := by
          apply Classical.byContradiction
          intro hlt
          apply hl
          right
          unfold less casts
          simp only [List.length_map]
          rw [if_pos (by omega)]
          exact decide_eq_true (by omega)
        refine ⟨by rcases Nat.eq_zero_or_pos best.length with h3 | h3; exact absurd (.inl h3) hl; exact h3, by omega⟩
  · rw [if_neg hc]
    refine ⟨h.1, fun x y hp hd h0 => ?_⟩
    rcases hp with hp | ⟨rfl, rfl⟩
    · exact h.2 x y hp hd h0
    · exact absurd ⟨hd, h0⟩ hc
theorem best_inv {E D : Nat → Nat → Bool} {n : Nat} : ∀ k, k ≤ n → BestInv E D n (fun x y => x < k ∧ y < n) (bestS E D n k)
  | 0, _ => ⟨.inl rfl, fun x y h => by omega⟩
  | k + 1, hk => by
    rw [bestS_succ]
    have key : ∀ j, j ≤ n → BestInv E D n (fun x y => (x < k ∧ y < n) ∨ (x = k ∧ y < j)) (rowS E D n k (bestS E D n k) j) := by
      intro j
      induction j with
      | zero =>
        intro _
        have h := best_inv (E := E) (D := D) (n := n) k (by omega)
        exact ⟨h.1, fun x y hp hd h0 => h.2 x y (by rcases hp with hp | hp; exact hp; omega) hd h0⟩
      | succ j ih =>
        intro hj
        rw [rowS_succ]
        have h := (ih (by omega)).step (a := k) (b := j) (by omega) (by omega)
        refine ⟨h.1, fun x y hp hd h0 => h.2 x y ?_ hd h0⟩
        rcases hp with hp | ⟨h1, h2⟩
        · exact .inl (.inl hp)
        · by_cases e : y = j
          · exact .inr ⟨h1, e⟩
          · exact .inl (.inr ⟨h1, by omega⟩)
    have h := key n (Nat.le_refl n)
    exact ⟨h.1, fun x y hp hd h0 => h.2 x y (by by_cases e : x = k; exact .inr ⟨e, hp.2⟩; exact .inl ⟨by omega, hp.2⟩) hd h0⟩
theorem reason_made {R : Nat} {rs : List RuleD} (hm : MadeOk R rs) : reasonS R rs = if (bestS (EU rs) (ED rs) R R).length = 0 then ([], 4) else (bestS (EU rs) (ED rs) R R, 0) := by
  unfold reasonS; rw [if_neg (by rw [hm.ck]; simp), Int.toNat_natCast]
/-- There are no blocks: there is a cycle. -/
theorem reason_yes {R : Nat} {rs : List RuleD} (hm : MadeOk R rs) (ho : ordB R (ED rs) (fwM (EU rs) R) = false) : ∃ c, reasonS R rs = (c, 0) ∧ CycOk (EU rs) (ED rs) R c := by
  obtain ⟨h1, h2⟩ := best_inv (E := EU rs) (D := ED rs) (n := R) R (Nat.le_refl R)
  have hex : ∃ a b, a < R ∧ b < R ∧ ED rs a b = true ∧ (a = b ∨ fwM (EU rs) R b a = true) := by
    apply Classical.byContradiction
    intro hn
    have : ordB R (ED rs) (fwM (EU rs) R) = true := ordB_iff.2 fun a b ha hb hd hx => hn ⟨a, b, ha, hb, hd, hx⟩
    rw [this] at ho; cases ho
  obtain ⟨a, b, ha, hb, hd, hx⟩ := hex
  have h3 := h2 a b ⟨ha, hb⟩ hd ((dist_iff ha hb).2 hx)
  refine ⟨_, by rw [reason_made hm, if_neg (by omega)], ?_⟩
  rcases h1 with h1 | ⟨x, y, hx1, hy1, hd1, h01, he⟩
  · rw [h1] at h3; simp at h3
  · rw [he]; exact cand_ok (fun a b h => uses_le h) hx1 hy1 hd1 h01
/-- There are blocks: there is no cycle. -/
theorem reason_no {R : Nat} {rs : List RuleD} (hm : MadeOk R rs) (ho : ordB R (ED rs) (fwM (EU rs) R) = true) : reasonS R rs = ([], 4) := by
  obtain ⟨h1, _⟩ := best_inv (E := EU rs) (D := ED rs) (n := R) R (Nat.le_refl R)
  rw [reason_made hm, if_pos]
  rcases h1 with h1 | ⟨x, y, hx1, hy1, hd1, h01, _⟩
  · rw [h1]; rfl
  · exact absurd ((dist_iff hx1 hy1).1 h01) (ordB_iff.1 ho x y hx1 hy1 hd1)
end Go.Proofs.Ytdehpaikapbckaa
/- The places of relations: plain Lean. -/
namespace Go.Proofs.Ytdehpaikapbckaa
open Go.Sl
theorem order_all {n : Nat} {M : Nat → Nat → Bool} (ht : TransM n M) : ∀ (f : Nat) (done : List Nat), GoodD n M done → n ≤ f + done.length →
    GoodD n M (done ++ (orderS n M f done).flatten) ∧ (∀ a, a < n → a ∈ done ++ (orderS n M f done).flatten) ∧
    ∀ i (hi : i < (orderS n M f done).length), ∀ a ∈ (orderS n M f done)[i], ∀ b, b < n → M a b = true → b ∈ done ∨ ∃ j, ∃ hj : j < (orderS n M f done).length, j ≤ i ∧ b ∈ (orderS n M f done)[j] := by
  intro f
  induction f with
  | zero =>
    intro done hg hl
    have e : orderS n M 0 done = [] := rfl
    rw [e]
    refine ⟨by simpa using hg, fun a ha => by simpa using all_done hg (by omega) a ha, fun i hi => by simp at hi⟩
  | succ f ih =>
    intro done hg hl
    cases hp : pickS n M done with
    | none =>
      have e : orderS n M (f + 1) done = [] := orderS_end hp _
      rw [e]
      refine ⟨by simpa using hg, fun a ha => ?_, fun i hi => by simp at hi⟩
      simp only [List.flatten_nil, List.append_nil]
      apply Classical.byContradiction
      intro h
      obtain ⟨x, hx, hr⟩ := some_ready ht ha h
      have := pickS_none.1 hp x hx
      rw [hr] at this; cases this
    | some x =>
      obtain ⟨hx, hr⟩ := pickS_some hp
      have e : orderS n M (f + 1) done = blockS n M x :: orderS n M f (done ++ blockS n M x) := orderS_step hp
      have hg2 := hg.step ht hx hr
      have hpos : 0 < (blockS n M x).length := List.length_pos_of_mem (self_block hx)
      obtain ⟨h1, h2, h3⟩ := ih (done ++ blockS n M x) hg2 (by rw [List.length_append]; omega)
      rw [e]
      have ea : done ++ (blockS n M x :: orderS n M f (done ++ blockS n M x)).flatten = (done ++ blockS n M x) ++ (orderS n M f (done ++ blockS n M x)).flatten := by simp
      rw [ea]
      refine ⟨h1, h2, fun i hi a ha b hb hm => ?_⟩
      cases i with
      | zero =>
        simp only [List.getElem_cons_zero] at ha
        have hcl := hg2.cl a (List.mem_append_right _ ha) b hb hm
        rcases List.mem_append.1 hcl with h | h
        · exact .inl h
        · exact .inr ⟨0, by simp, Nat.le_refl _, by simpa using h⟩
      | succ i =>
        simp only [List.getElem_cons_succ] at ha
        rcases h3 i (by simpa using hi) a ha b hb hm with h | ⟨j, hj, hji, hbj⟩
        · rcases List.mem_append.1 h with h | h
          · exact .inl h
          · exact .inr ⟨0, by simp, by omega, by simpa using h⟩
        · exact .inr ⟨j + 1, by simpa using hj, by omega, by simpa using hbj⟩
def placeL : List (List Nat) → Nat → Nat → Int
  | [], _, _ => 0
  | l :: r, j, a => if a ∈ l then (j : Int) + 1 else placeL r (j + 1) a
theorem placeL_zero {a : Nat} : ∀ {ls : List (List Nat)} {j : Nat}, a ∉ ls.flatten → placeL ls j a = 0
  | [], _, _ => rfl
  | l :: r, j, h => by
    simp only [List.flatten_cons, List.mem_append, not_or] at h
    unfold placeL
    rw [if_neg h.1, placeL_zero h.2]
theorem placeL_pre {a : Nat} : ∀ {pre : List (List Nat)} {j : Nat} (r : List (List Nat)), a ∈ pre.flatten → placeL (pre ++ r) j a = placeL pre j a
  | [], _, _, h => by simp at h
  | l :: q, j, r, h => by
    rw [List.cons_append]
    unfold placeL
    by_cases h1 : a ∈ l
    · rw [if_pos h1, if_pos h1]
    · rw [if_neg h1, if_neg h1]
      exact placeL_pre r (by simpa [h1] using h)
theorem placeL_skip {a : Nat} : ∀ {pre : List (List Nat)} {j : Nat} (r : List (List Nat)), a ∉ pre.flatten → placeL (pre ++ r) j a = placeL r (j + pre.length) a
  | [], _, _, _ => rfl
  | l :: q, j, r, h => by
    simp only [List.flatten_cons, List.mem_append, not_or] at h
    rw [List.cons_append]
    unfold placeL
    rw [if_neg h.1, placeL_skip r h.2]
    rw [show j + 1 + q.length = j + (l :: q).length by simp; omega]
    cases r <;> rfl
theorem placeL_snoc {a j : Nat} {pre : List (List Nat)} {l : List Nat} : placeL (pre ++ [l]) j a = if a ∈ pre.flatten then placeL pre j a else if a ∈ l then ((j + pre.length : Nat) : Int) + 1 else 0 := by
  by_cases h : a ∈ pre.flatten
  · rw [if_pos h, placeL_pre _ h]
  · rw [if_neg h, placeL_skip _ h]; rfl
theorem placeL_at {a i : Nat} {ls : List (List Nat)} (hn : ls.flatten.Nodup) (hi : i < ls.length) (ha : a ∈ ls[i]) : placeL ls 0 a = (i : Int) + 1 := by
  have e : ls = ls.take i ++ (ls[i] :: ls.drop (i + 1)) := by rw [← List.drop_eq_getElem_cons hi, List.take_append_drop]
  have hnot : a ∉ (ls.take i).flatten := by
    intro h
    rw [e, List.flatten_append, List.flatten_cons, List.nodup_append] at hn
    exact hn.2.2 a h a (List.mem_append_left _ ha) rfl
  rw [e, placeL_skip _ hnot]
  unfold placeL
  rw [if_pos ha, List.length_take, Nat.min_eq_left (Nat.le_of_lt hi)]; simp
/-- What the law asks of blocks. -/
structure BlkOk (E D : Nat → Nat → Bool) (R : Nat) (ls : List (List Nat)) : Prop where
  lt : ∀ own ∈ ls, ∀ a ∈ own, a < R
  ne : ∀ own ∈ ls, 0 < own.length
  up : ∀ own ∈ ls, own.Pairwise (· < ·)
  nd : ls.flatten.Nodup
  all : ls.flatten.length = R
  use : ∀ a b, a < R → b < R → E a b = true → placeL ls 0 b ≤ placeL ls 0 a
  den : ∀ a b, a < R → b < R → D a b = true → placeL ls 0 b < placeL ls 0 a
theorem blk_ok {E D : Nat → Nat → Bool} {R : Nat} (hDE : ∀ a b, D a b = true → E a b = true) (ho : ordB R D (fwM E R) = true) : BlkOk E D R (orderS R (fwM E R) R []) := by
  obtain ⟨h1, h2, h3⟩ := order_all (fw_TransM E R) R [] (GoodD.nil _ _) (by simp)
  obtain ⟨ls, hls⟩ : ∃ ls, ls = orderS R (fwM E R) R [] := ⟨_, rfl⟩
  have hblk := orderS_lt (n := R) (M := fwM E R) R []
  rw [← hls] at h1 h2 h3 hblk ⊢
  simp only [List.nil_append] at h1 h2
  have hplace : ∀ a, a < R → ∃ i, ∃ hi : i < ls.length, a ∈ ls[i] ∧ placeL ls 0 a = (i : Int) + 1 := fun a ha => by
    obtain ⟨l, hl, hal⟩ := List.mem_flatten.1 (h2 a ha)
    obtain ⟨i, hi, rfl⟩ := List.mem_iff_getElem.1 hl
    exact ⟨i, hi, hal, placeL_at h1.nd hi hal⟩
  have huse : ∀ a b, a < R → b < R → E a b = true → ∃ i j, ∃ hi : i < ls.length, ∃ hj : j < ls.length, a ∈ ls[i] ∧ b ∈ ls[j] ∧ j ≤ i := fun a b ha hb he => by
    obtain ⟨i, hi, hai, _⟩ := hplace a ha
    rcases h3 i hi a hai b hb (fw_E he) with h | ⟨j, hj, hji, hbj⟩
    · simp at h
    · exact ⟨i, j, hi, hj, hai, hbj, hji⟩
  refine ⟨fun own h a ha => ?_, fun own h => ?_, fun own h => ?_, h1.nd, ?_, fun a b ha hb he => ?_, fun a b ha hb hd => ?_⟩
  · obtain ⟨a0, _, rfl⟩ := hblk own h
    exact (mem_blockS.1 ha).1
  · obtain ⟨a0, h0, rfl⟩ := hblk own h
    exact List.length_pos_of_mem (self_block h0)
  · obtain ⟨a0, _, rfl⟩ := hblk own h
    exact List.pairwise_lt_range.sublist List.filter_sublist
  · apply Nat.le_antisymm
    · have := h1.nd.length_le_of_subset (l₂ := List.range R) (fun a ha => by simpa using h1.lt a ha)
      simpa using this
    · have := (List.nodup_range (n := R)).length_le_of_subset (l₂ := ls.flatten) (fun a ha => h2 a (by simpa using ha))
      simpa using this
  · obtain ⟨i, j, hi, hj, hai, hbj, hji⟩ := huse a b ha hb he
    rw [placeL_at h1.nd hi hai, placeL_at h1.nd hj hbj]; omega
  · obtain ⟨i, j, hi, hj, hai, hbj, hji⟩ := huse a b ha hb (hDE a b hd)
    have hne : j ≠ i := by
      intro e
      subst e
      obtain ⟨a0, h0, hb0⟩ := hblk _ (List.getElem_mem hj)
      rw [hb0] at hai hbj
      obtain ⟨_, h5⟩ := mem_blockS.1 hai
      obtain ⟨_, h6⟩ := mem_blockS.1 hbj
      apply ordB_iff.1 ho a b ha hb hd
      rcases h6 with rfl | ⟨h7, h8⟩
      · rcases h5 with rfl | ⟨h9, _⟩
        · exact .inl rfl
        · exact .inr h9
      · rcases h5 with rfl | ⟨h9, h10⟩
        · exact .inr h8
        · exact .inr (fw_trans h0 h8 h9)
    rw [placeL_at h1.nd hi hai, placeL_at h1.nd hj hbj]; omega
/-- The places when some blocks, and some relations of the next one, have been met. -/
def placeF (ls : List (List Nat)) (i : Nat) (own : List Nat) (k a : Nat) : Int := placeL (ls.take i ++ [own.take k]) 0 a
theorem placeF_zero {ls : List (List Nat)} {i a : Nat} {own : List Nat} : placeF ls i own 0 a = placeL (ls.take i) 0 a := by
  unfold placeF
  rw [placeL_snoc, List.take_zero]
  by_cases h : a ∈ (ls.take i).flatten
  · rw [if_pos h]
  · rw [if_neg h, if_neg (by simp), placeL_zero h]
theorem placeF_all {ls : List (List Nat)} {i a : Nat} (hi : i < ls.length) : placeF ls i ls[i] ls[i].length a = placeL (ls.take (i + 1)) 0 a := by
  unfold placeF
  rw [List.take_length, List.take_succ_eq_append_getElem hi]
theorem place_new {ls : List (List Nat)} {i k : Nat} (hn : ls.flatten.Nodup) (hi : i < ls.length) (hk : k < ls[i].length) : ls[i][k] ∉ (ls.take i).flatten ∧ ls[i][k] ∉ ls[i].take k := by
  have e : ls = ls.take i ++ (ls[i] :: ls.drop (i + 1)) := by rw [← List.drop_eq_getElem_cons hi, List.take_append_drop]
  have hn2 := hn
  rw [e, List.flatten_append, List.flatten_cons, List.nodup_append, List.nodup_append] at hn2
  refine ⟨fun h => hn2.2.2 _ h _ (List.mem_append_left _ (List.getElem_mem hk)) rfl, fun h => ?_⟩
  have h3 := hn2.2.1.1
  obtain ⟨m, hm, he⟩ := List.mem_iff_getElem.1 h
  rw [List.length_take] at hm
  rw [List.getElem_take] at he
  have hmk : m < k := by omega
  rw [List.Nodup, List.pairwise_iff_getElem] at h3
  exact h3 m k (by omega) hk hmk he
theorem placeF_here {ls : List (List Nat)} {i k : Nat} (hn : ls.flatten.Nodup) (hi : i < ls.length) (hk : k < ls[i].length) : placeF ls i ls[i] k ls[i][k] = 0 := by
  obtain ⟨h1, h2⟩ := place_new hn hi hk
  unfold placeF
  rw [placeL_snoc, if_neg h1, if_neg h2]
theorem placeF_succ {ls : List (List Nat)} {i k x : Nat} (hn : ls.flatten.Nodup) (hi : i < ls.length) (hk : k < ls[i].length) : placeF ls i ls[i] (k + 1) x = if x = ls[i][k] then (i : Int) + 1 else placeF ls i ls[i] k x := by
  obtain ⟨h1, h2⟩ := place_new hn hi hk
  unfold placeF
  rw [placeL_snoc, placeL_snoc]
  by_cases hx : x = ls[i][k]
  · subst hx
    rw [if_pos rfl, if_neg h1, if_pos (by rw [List.take_succ_eq_append_getElem hk]; exact List.mem_append_right _ List.mem_cons_self), List.length_take, Nat.min_eq_left (Nat.le_of_lt hi)]; simp
  · rw [if_neg hx]
    have : (x ∈ ls[i].take (k + 1)) ↔ x ∈ ls[i].take k := by
      rw [List.take_succ_eq_append_getElem hk, List.mem_append]; simp only [List.mem_singleton, hx, or_false]
    simp only [this]
end Go.Proofs.Ytdehpaikapbckaa
/- The law of blocks and cycles. -/
namespace Go.Proofs.Ytdehpaikapbckaa
open Go.Sl
variable {S : Nat → Prop} {w0 : World} {η : Heap}

set_option maxHeartbeats 2000000 in
theorem StratEither_fn {fa : Option Addr} {xs : List Nat} {m fc : Nat} (hm : m < 256) (hx : Row S w0 [] fa (u16s xs)) (hfc : xs.length ≤ fc) (hxs : ∀ n ∈ xs, n < 65536) (hl : xs.length < 2 ^ 63) :
    Rt Try.prog 4 [.int .u8 (m : Int), .slice fa xs.length fc].toArray S w0 [] (fun v _ => v = .bool true) := by
  have hF := open_wide
  refine Rt.of (fn := Try.f4) Try.func4 rfl rfl ?_
  refine T.seq ?_
  refine T.region ?_
  refine TL.assign hF rfl rfl ?_
  refine TL.nil ?_
  refine TQ.then_n ?_
  refine T.seq ?_
  refine T.seq ?_
  refine T.region ?_
  have hb := Back.refl S w0
  refine TL.move hF rfl rfl ?_
  refine TL.len hF rfl rfl ?_
  refine TL.bin hF rfl rfl rfl rfl ?_
  refine TL.nil ?_
  refine TQ.then_n ?_
  first | refine T.cond_d rfl (fun ht27 => ?_) (fun ht27 => ?_) | refine T.cond _ rfl (fun ht27 => ?_) (fun ht27 => ?_)
  · refine T.seq ?_
    refine T.region ?_
    refine TL.call hF awake_fn rfl rfl ?_
    rintro _ _ rfl
    refine TL.assign hF rfl rfl ?_
    refine TL.nil ?_
    refine TQ.then_n ?_
    refine T.ret ?_
    refine TQ.then_r ?_
    exact TQ.retsF [4] _ hb rfl rfl rfl (fun _ => rfl)
  · refine T.skip ?_
    refine TQ.then_n ?_
    refine T.seq ?_
    refine T.region ?_
    refine TL.move hF rfl rfl ?_
    refine TL.convK hF rfl (u8_wrap hm) rfl ?_
    refine TL.remN (b := 12) hF rfl rfl (by decide) rfl ?_
    refine TL.add hF rfl rfl (by omega) (by omega) rfl ?_
    obtain ⟨R, hRe⟩ : ∃ R : Nat, R = 1 + m % 12 := ⟨_, rfl⟩
    have hR12 : 0 < R ∧ R ≤ 12 := by omega
    rw [show (1 : Int) + ((m % 12 : Nat) : Int) = (R : Int) by omega]
    have hl60 : xs.length ≤ 60 := by have h : ¬ (60 : Int) < (xs.length : Int) := ht27; omega
    refine TL.assign hF rfl rfl ?_
    refine TL.nil ?_
    refine TQ.then_n ?_
    refine T.seq ?_
    refine T.region ?_
    refine TL.move hF rfl rfl ?_
    refine TL.move hF rfl rfl ?_
    refine TL.call hF (loose_fn hx hl60 hfc hxs hR12.1 (by omega)) rfl rfl ?_
    rintro _ _ ⟨pa, pc, s1, rs, rfl, rfl, hr, hkey⟩
    have hmo := made_ok hkey hR12.1 (by omega) hl60
    refine TL.freeze s1 rfl (fun S1 w1 hz1 => ?_)
    have hb := hb.frz hz1
    have hr := hr.frz hz1
    refine TL.assign hF rfl rfl ?_
    refine TL.nil ?_
    refine TQ.then_n ?_
    refine T.seq ?_
    refine T.region ?_
    refine TL.move hF rfl rfl ?_
    refine TL.move hF rfl rfl ?_
    refine TL.call hF (Blocks_prog (R : Int) hr (by have := hmo.len; omega) hmo.bl63) rfl rfl ?_
    rintro _ _ ⟨ba, bc, s2, rfl, rfl, hO⟩
    refine TL.freeze s2 rfl (fun S2 w2 hz2 => ?_)
    have hb := hb.frz hz2
    have hr := hr.old hz2
    have hO := hO.frz hz2
    refine TL.move hF rfl rfl ?_
    refine TL.extract hF rfl rfl rfl ?_
    refine TL.extract hF rfl rfl rfl ?_
    refine TL.assign hF rfl rfl ?_
    refine TL.assign hF rfl rfl ?_
    refine TL.nil ?_
    refine TQ.then_n ?_
    refine T.seq ?_
    refine T.region ?_
    refine TL.move hF rfl rfl ?_
    refine TL.move hF rfl rfl ?_
    refine TL.call hF (Reason_prog (R : Int) hr (by have := hmo.len; omega) hmo.bl63) rfl rfl ?_
    rintro _ _ ⟨ca, cc, s3, rfl, rfl, hC⟩
    refine TL.freeze s3 rfl (fun S3 w3 hz3 => ?_)
    have hb := hb.frz hz3
    have hr := hr.old hz3
    have hO := hO.old hz3
    have hC := hC.frz hz3
    refine TL.move hF rfl rfl ?_
    refine TL.extract hF rfl rfl rfl ?_
    refine TL.extract hF rfl rfl rfl ?_
    refine TL.assign hF rfl rfl ?_
    refine TL.assign hF rfl rfl ?_
    refine TL.nil ?_
    refine TQ.then_n ?_
    refine T.seq ?_
    refine T.region ?_
    refine TL.move hF rfl rfl ?_
    refine TL.move hF rfl rfl ?_
    refine TL.call hF (direct_fn (R := R) hr (by have := hmo.len; omega) hmo.bl63 (by omega) hmo.rg) rfl rfl ?_
    rintro _ _ ⟨ta, tc, na, nc, s4, rfl, rfl, hT, hN⟩
    refine TL.freeze s4 rfl (fun S4 w4 hz4 => ?_)
    have hb := hb.frz hz4
    have hO := hO.old hz4
    have hC := hC.old hz4
    have hT := hT.frz hz4
    have hN := hN.frz hz4
    obtain ⟨tf, htf⟩ := hT
    obtain ⟨nf, hnf⟩ := hN
    have htE : ∀ a b, a < R → b < R → At S4 w4 [] (sAt (tf a).1 (b * 1)) (.bool (EU rs a b)) := fun a b ha hb2 => by
      rw [Nat.mul_one]; exact (htf a ha).2.2.cell b _ (rowC_get hb2)
    have hnE : ∀ a b, a < R → b < R → At S4 w4 [] (sAt (nf a).1 (b * 1)) (.bool (ED rs a b)) := fun a b ha hb2 => by
      rw [Nat.mul_one]; exact (hnf a ha).2.2.cell b _ (rowC_get hb2)
    have htA : ∀ a, a < R → ∃ ad, (tf a).1 = some ad ∧ ad.spot = none := fun a ha => (htf a ha).2.2.ad (by simp [rowC_len]; omega)
    have hnA : ∀ a, a < R → ∃ ad, (nf a).1 = some ad ∧ ad.spot = none := fun a ha => (hnf a ha).2.2.ad (by simp [rowC_len]; omega)
    refine TL.move hF rfl rfl ?_
    refine TL.extract hF rfl rfl rfl ?_
    refine TL.extract hF rfl rfl rfl ?_
    refine TL.assign hF rfl rfl ?_
    refine TL.assign hF rfl rfl ?_
    refine TL.nil ?_
    refine TQ.then_n ?_
    refine T.seq ?_
    refine T.seq ?_
    refine T.region ?_
    refine TL.move hF rfl rfl ?_
    refine TL.bin hF rfl rfl rfl rfl ?_
    refine TL.nil ?_
    refine TQ.then_n ?_
    first | refine T.cond_d rfl (fun ht55 => ?_) (fun ht55 => ?_) | refine T.cond _ rfl (fun ht55 => ?_) (fun ht55 => ?_)
    · refine T.seq ?_
      refine T.seq ?_
      refine T.region ?_
      obtain ⟨hbe, hob⟩ := blocks_err hmo ht55
      obtain ⟨cy, hcy, hck⟩ := reason_yes hmo hob
      have hcl : cy.length ≤ 48 := by have := reasonS_len R rs; rw [hcy] at this; exact this
      rw [hcy] at hC ⊢
      rw [hbe]
      simp only at hC
      refine TL.move hF rfl rfl ?_
      refine TL.bin hF rfl rfl rfl rfl ?_
      refine TL.move hF rfl rfl ?_
      refine TL.on rfl rfl rfl (decide_eq_false (by simp)) ?_
      refine TL.move hF rfl rfl ?_
      refine TL.on rfl rfl rfl (decide_eq_false (by simp)) ?_
      refine TL.bin hF rfl rfl rfl rfl ?_
      refine TL.pickF hF rfl (decide_eq_false (by simp)) rfl rfl ?_
      refine TL.move hF rfl rfl ?_
      refine TL.on rfl rfl rfl (decide_eq_false (by simp)) ?_
      refine TL.move hF rfl rfl ?_
      refine TL.on rfl rfl rfl (decide_eq_false (by simp)) ?_
      refine TL.len hF rfl rfl ?_
      refine TL.on rfl rfl rfl (decide_eq_false (by simp)) ?_
      refine TL.bin hF rfl rfl rfl rfl ?_
      refine TL.pickF hF rfl (decide_eq_false (by simp)) rfl rfl ?_
      refine TL.move hF rfl rfl ?_
      refine TL.on rfl rfl rfl (decide_eq_false (by have := hck.pos; simp only; omega)) ?_
      refine TL.move hF rfl rfl ?_
      refine TL.on rfl rfl rfl (decide_eq_false (by have := hck.pos; simp only; omega)) ?_
      refine TL.len hF rfl rfl ?_
      refine TL.on rfl rfl rfl (decide_eq_false (by have := hck.pos; simp only; omega)) ?_
      refine TL.bin hF rfl rfl rfl rfl ?_
      refine TL.pickF hF rfl (decide_eq_false (by have := hck.pos; simp only; omega)) rfl rfl ?_
      refine TL.nil ?_
      refine TQ.then_n ?_
      refine T.cond_f rfl (decide_eq_false (by simp)) ?_
      refine T.skip ?_
      refine TQ.then_n ?_
      refine T.seq ?_
      refine T.region ?_
      refine TL.makeMap hF rfl (fun b72 => ?_)
      refine TL.assign hF rfl rfl ?_
      refine TL.nil ?_
      refine TQ.then_n ?_
      refine T.seq ?_
      refine T.seq ?_
      refine T.region ?_
      refine TL.move hF rfl rfl ?_
      refine TL.len hF rfl rfl ?_
      refine TL.move hF rfl rfl ?_
      refine TL.nil ?_
      refine TQ.then_n ?_
      refine T.block ?_
      refine T.loop (ι := Nat × List (Int × Bool) × Array MapEntry × Nat) (fun i => i.1 ≤ cy.length ∧ MObj (Value.int .i64) Value.bool i.2.1 i.2.2.1 i.2.2.2 ∧ ∀ x : Nat, x ∉ cy.take i.1 → mget (x : Int) i.2.1 = none) (fun i => [(5, .int .i64 (R : Int)), (9, .slice ca cy.length cc), (11, .slice ta R tc), (12, .slice na R nc), (13, .map (some b72)), (73, .slice ca cy.length cc), (74, .int .i64 (cy.length : Int)), (75, .int .i64 (i.1 : Int))]) (fun i => [(b72, .map i.2.2.1 i.2.2.2)] :: []) (fun i => cy.length - i.1) (0, [], #[], 0) ⟨Nat.zero_le _, MObj.nil _ _, fun x _ => rfl⟩ ⟨rfl, rfl, rfl, rfl, rfl, rfl, rfl, rfl, trivial⟩ rfl ?_
      rintro ⟨i, mm, es, clock⟩ ⟨hi, hmm, hseen⟩
      simp only at hi hmm hseen
      refine T.seq ?_
      refine T.region ?_
      refine TL.bin hF rfl rfl rfl rfl ?_
      refine TL.nil ?_
      refine TQ.then_n ?_
      refine T.seq ?_
      first | refine T.cond_d rfl (fun ht76 => ?_) (fun ht76 => ?_) | refine T.cond _ rfl (fun ht76 => ?_) (fun ht76 => ?_)
      · refine T.skip ?_
        refine TQ.then_n ?_
        refine T.seq ?_
        refine T.block ?_
        refine T.seq ?_
        refine T.region ?_
        refine TL.move hF rfl rfl ?_
        have hil : i < cy.length := by have h : (i : Int) < cy.length := ht76; omega
        have hjl : (i + 1) % cy.length < cy.length := Nat.mod_lt _ hck.pos
        obtain ⟨a, ha⟩ : ∃ a, a = cy[i] := ⟨_, rfl⟩
        obtain ⟨b, hbb⟩ : ∃ b, b = cy[(i + 1) % cy.length] := ⟨_, rfl⟩
        have haR : a < R := by rw [ha]; exact hck.lt _ (List.getElem_mem _)
        have hbR : b < R := by rw [hbb]; exact hck.lt _ (List.getElem_mem _)
        have hab : EU rs a b = true := by rw [ha, hbb]; exact hck.to i hil
        have hden0 : i = 0 → ED rs a b = true := fun h => by
          subst h
          have := hck.den
          rw [ha, hbb]; simpa using this
        have hanew : a ∉ cy.take i := by
          intro h
          obtain ⟨m, hm2, he⟩ := List.mem_iff_getElem.1 h
          rw [List.length_take] at hm2
          rw [List.getElem_take] at he
          have h3 := hck.nd
          rw [List.Nodup, List.pairwise_iff_getElem] at h3
          exact h3 m i (by omega) hil (by omega) (by rw [he, ha])
        refine TL.indexAddr hF rfl rfl (hC.nad hil) (by omega) (by omega) rfl ?_
        refine TL.load hF rfl (v := .int .i64 (a : Int)) (by rw [ha, Int.toNat_natCast]; exact (hC.nat hil).up (by simp)) rfl ?_
        refine TL.assign hF rfl rfl ?_
        refine TL.assign hF rfl rfl ?_
        refine TL.nil ?_
        refine TQ.then_n ?_
        refine T.seq ?_
        refine T.region ?_
        refine TL.move hF rfl rfl ?_
        refine TL.move hF rfl rfl ?_
        refine TL.add hF rfl rfl (by omega) (by omega) rfl ?_
        refine TL.move hF rfl rfl ?_
        refine TL.len hF rfl rfl ?_
        refine TL.remN (a := i + 1) hF (by rfl) rfl hck.pos rfl ?_
        refine TL.indexAddr hF rfl rfl (hC.nad hjl) (by omega) (by omega) rfl ?_
        refine TL.load hF rfl (v := .int .i64 (b : Int)) (by rw [hbb, Int.toNat_natCast]; exact (hC.nat hjl).up (by simp)) rfl ?_
        refine TL.assign hF rfl rfl ?_
        refine TL.nil ?_
        refine TQ.then_n ?_
        refine T.seq ?_
        refine T.seq ?_
        refine T.region ?_
        refine TL.move hF rfl rfl ?_
        refine TL.bin hF rfl rfl rfl rfl ?_
        refine TL.move hF rfl rfl ?_
        refine TL.on rfl rfl rfl (decide_eq_false (by omega)) ?_
        refine TL.move hF rfl rfl ?_
        refine TL.on rfl rfl rfl (decide_eq_false (by omega)) ?_
        refine TL.move hF rfl rfl ?_
        refine TL.on rfl rfl rfl (decide_eq_false (by omega)) ?_
        refine TL.bin hF rfl rfl rfl rfl ?_
        refine TL.pickF hF rfl (decide_eq_false (by omega)) rfl rfl ?_
        refine TL.move hF rfl rfl ?_
        refine TL.on rfl rfl rfl (decide_eq_false (by omega)) ?_
        refine TL.move hF rfl rfl ?_
        refine TL.on rfl rfl rfl (decide_eq_false (by omega)) ?_
        refine TL.bin hF rfl rfl rfl rfl ?_
        refine TL.pickF hF rfl (decide_eq_false (by omega)) rfl rfl ?_
        refine TL.move hF rfl rfl ?_
        refine TL.on rfl rfl rfl (decide_eq_false (by omega)) ?_
        refine TL.move hF rfl rfl ?_
        refine TL.on rfl rfl rfl (decide_eq_false (by omega)) ?_
        refine TL.move hF rfl rfl ?_
        refine TL.on rfl rfl rfl (decide_eq_false (by omega)) ?_
        refine TL.bin hF rfl rfl rfl rfl ?_
        refine TL.pickF hF rfl (decide_eq_false (by omega)) rfl rfl ?_
        refine TL.move hF rfl rfl ?_
        refine TL.on rfl rfl rfl (decide_eq_false (by omega)) ?_
        refine TL.move hF rfl rfl ?_
        refine TL.on rfl rfl rfl (decide_eq_false (by omega)) ?_
        refine TL.move hF rfl rfl ?_
        refine TL.on rfl rfl rfl (decide_eq_false (by omega)) ?_
        refine TL.lookupB hF (K := Value.int .i64) (a : Int) rfl rfl (by simp) hmm rfl ?_
        rw [hseen a hanew]
        refine TL.pickF hF rfl (decide_eq_false (by omega)) rfl rfl ?_
        refine TL.move hF rfl rfl ?_
        refine TL.on rfl rfl rfl rfl ?_
        refine TL.move hF rfl rfl ?_
        refine TL.on rfl rfl rfl rfl ?_
        refine TL.move hF rfl rfl ?_
        refine TL.on rfl rfl rfl rfl ?_
        refine TL.indexAddr hF rfl rfl ((htf a (by omega)).1) (by omega) (by omega) rfl ?_
        refine TL.on rfl rfl rfl rfl ?_
        refine TL.load hF rfl (by rw [Int.toNat_natCast]; exact (htf a (by omega)).2.1.up (by simp)) rfl ?_
        refine TL.on rfl rfl rfl rfl ?_
        refine TL.move hF rfl rfl ?_
        refine TL.on rfl rfl rfl rfl ?_
        refine TL.indexAddr hF rfl rfl (htA a (by omega)) (by omega) (by omega) rfl ?_
        refine TL.on rfl rfl rfl rfl ?_
        refine TL.load hF rfl (by rw [Int.toNat_natCast]; exact (htE a b (by omega) (by omega)).up (by simp)) rfl ?_
        refine TL.on rfl rfl rfl rfl ?_
        refine TL.not hF rfl rfl ?_
        rw [hab]
        refine TL.pickF hF rfl rfl rfl rfl ?_
        refine TL.move hF rfl rfl ?_
        refine TL.on rfl rfl rfl rfl ?_
        refine TL.move hF rfl rfl ?_
        refine TL.on rfl rfl rfl rfl ?_
        refine TL.bin hF rfl rfl rfl rfl ?_
        refine TL.on rfl rfl rfl rfl ?_
        refine TL.move hF rfl rfl ?_
        refine TL.gd (t := 122) rfl (fun g16_122 => ?_) (fun g16_122 => ?_)
        · refine TL.on rfl rfl rfl (decide_eq_true g16_122) ?_
          refine TL.move hF rfl rfl ?_
          refine TL.on rfl rfl rfl (decide_eq_true g16_122) ?_
          refine TL.move hF rfl rfl ?_
          refine TL.on rfl rfl rfl (decide_eq_true g16_122) ?_
          refine TL.indexAddr hF rfl rfl ((hnf a (by omega)).1) (by omega) (by omega) rfl ?_
          refine TL.on rfl rfl rfl (decide_eq_true g16_122) ?_
          refine TL.load hF rfl (by rw [Int.toNat_natCast]; exact (hnf a (by omega)).2.1.up (by simp)) rfl ?_
          refine TL.on rfl rfl rfl (decide_eq_true g16_122) ?_
          refine TL.move hF rfl rfl ?_
          refine TL.on rfl rfl rfl (decide_eq_true g16_122) ?_
          refine TL.indexAddr hF rfl rfl (hnA a (by omega)) (by omega) (by omega) rfl ?_
          refine TL.on rfl rfl rfl (decide_eq_true g16_122) ?_
          refine TL.load hF rfl (by rw [Int.toNat_natCast]; exact (hnE a b (by omega) (by omega)).up (by simp)) rfl ?_
          refine TL.on rfl rfl rfl (decide_eq_true g16_122) ?_
          refine TL.not hF rfl rfl ?_
          refine TL.on rfl rfl rfl rfl ?_
          refine TL.pickT hF rfl (decide_eq_true g16_122) rfl rfl ?_
          refine TL.pickF hF rfl rfl rfl rfl ?_
          refine TL.nil ?_
          refine TQ.then_n ?_
          refine T.cond_f rfl (by have h : (i : Int) = 0 := g16_122; rw [hden0 (by omega)]; rfl) ?_
          refine T.skip ?_
          refine TQ.then_n ?_
          refine T.region ?_
          refine TL.move hF rfl rfl ?_
          refine TL.move hF rfl rfl ?_
          refine TL.mapUpdate hF 0 Value.bool (K := Value.int .i64) (a : Int) true rfl rfl rfl rfl hmm (fun es18 clock18 hm18 => ?_)
          refine TL.nil ?_
          refine TQ.block_n ?_
          refine TQ.then_n ?_
          refine T.region ?_
          refine TL.add hF rfl rfl (by omega) (by omega) rfl ?_
          refine TL.move hF rfl rfl ?_
          refine TL.nil ?_
          refine TQ.round (i + 1, mput (a : Int) true mm, es18, clock18) ⟨by simp only; omega, hm18, fun x hx => ?_⟩ (by simp only; omega) ⟨rfl, rfl, rfl, rfl, rfl, rfl, rfl, rfl, trivial⟩ rfl
          simp only at hx
          rw [List.take_succ_eq_append_getElem hil, ← ha] at hx
          simp only [List.mem_append, List.mem_singleton, not_or] at hx
          rw [mget_mput, if_neg (by have := hx.2; omega)]
          exact hseen x hx.1
        · refine TL.off hF rfl rfl rfl (decide_eq_false g16_122) rfl ?_
          refine TL.off hF rfl rfl rfl (decide_eq_false g16_122) rfl ?_
          refine TL.off hF rfl rfl rfl (decide_eq_false g16_122) rfl ?_
          refine TL.off hF rfl rfl rfl (decide_eq_false g16_122) rfl ?_
          refine TL.off hF rfl rfl rfl (decide_eq_false g16_122) rfl ?_
          refine TL.off hF rfl rfl rfl (decide_eq_false g16_122) rfl ?_
          refine TL.off hF rfl rfl rfl (decide_eq_false g16_122) rfl ?_
          refine TL.off hF rfl rfl rfl (decide_eq_false g16_122) rfl ?_
          refine TL.on rfl rfl rfl rfl ?_
          refine TL.pickF hF rfl (decide_eq_false g16_122) rfl rfl ?_
          refine TL.pickF hF rfl rfl rfl rfl ?_
          refine TL.nil ?_
          refine TQ.then_n ?_
          refine T.cond_f rfl rfl ?_
          refine T.skip ?_
          refine TQ.then_n ?_
          refine T.region ?_
          refine TL.move hF rfl rfl ?_
          refine TL.move hF rfl rfl ?_
          refine TL.mapUpdate hF 0 Value.bool (K := Value.int .i64) (a : Int) true rfl rfl rfl rfl hmm (fun es18 clock18 hm18 => ?_)
          refine TL.nil ?_
          refine TQ.block_n ?_
          refine TQ.then_n ?_
          refine T.region ?_
          refine TL.add hF rfl rfl (by omega) (by omega) rfl ?_
          refine TL.move hF rfl rfl ?_
          refine TL.nil ?_
          refine TQ.round (i + 1, mput (a : Int) true mm, es18, clock18) ⟨by simp only; omega, hm18, fun x hx => ?_⟩ (by simp only; omega) ⟨rfl, rfl, rfl, rfl, rfl, rfl, rfl, rfl, trivial⟩ rfl
          simp only at hx
          rw [List.take_succ_eq_append_getElem hil, ← ha] at hx
          simp only [List.mem_append, List.mem_singleton, not_or] at hx
          rw [mget_mput, if_neg (by have := hx.2; omega)]
          exact hseen x hx.1
      · refine T.exit ?_
        refine TQ.then_x ?_
        refine TQ.then_x ?_
        refine TQ.block_x ?_
        refine TQ.then_n ?_
        refine T.seq ?_
        refine T.region ?_
        refine TL.call hF awake_fn rfl rfl ?_
        rintro _ _ rfl
        refine TL.assign hF rfl rfl ?_
        refine TL.nil ?_
        refine TQ.then_n ?_
        refine T.ret ?_
        refine TQ.then_r ?_
        exact TQ.retsF [4] _ hb rfl rfl rfl (fun _ => rfl)
    · refine T.skip ?_
      refine TQ.then_n ?_
      refine T.seq ?_
      refine T.seq ?_
      refine T.region ?_
      have hbz : (blocksS R rs).2 = 0 := Classical.not_not.1 ht55
      obtain ⟨hbe, hob⟩ := blocks_ok hmo hbz
      have hcy := reason_no hmo hob
      have hbk := blk_ok (E := EU rs) (D := ED rs) (R := R) (fun a b h => uses_le h) hob
      rw [hbe] at hO
      obtain ⟨ls, hls⟩ : ∃ ls, ls = orderS R (fwM (EU rs) R) R [] := ⟨_, rfl⟩
      have hlsl : ls.length ≤ 48 := by have := orderS_len (n := R) (M := fwM (EU rs) R) R []; rw [hls]; omega
      simp only at hO
      rw [← hls] at hO hbk
      rw [hcy, hbe]
      simp only [← hls]
      refine TL.move hF rfl rfl ?_
      refine TL.bin hF rfl rfl rfl rfl ?_
      refine TL.move hF rfl rfl ?_
      refine TL.on rfl rfl rfl (decide_eq_false (by simp)) ?_
      refine TL.move hF rfl rfl ?_
      refine TL.on rfl rfl rfl (decide_eq_false (by simp)) ?_
      refine TL.len hF rfl rfl ?_
      refine TL.on rfl rfl rfl (decide_eq_false (by simp)) ?_
      refine TL.bin hF rfl rfl rfl rfl ?_
      refine TL.pickF hF rfl (decide_eq_false (by simp)) rfl rfl ?_
      refine TL.nil ?_
      refine TQ.then_n ?_
      refine T.cond_f rfl (decide_eq_false (by simp)) ?_
      refine T.skip ?_
      refine TQ.then_n ?_
      refine T.seq ?_
      refine T.region ?_
      refine TL.move hF rfl rfl ?_
      refine TL.makeSlice hF (k := R) rfl rfl rfl (by omega) (by omega) rfl (fun b145 => ?_)
      rw [intC_zero]
      refine TL.assign hF rfl rfl ?_
      refine TL.nil ?_
      refine TQ.then_n ?_
      refine T.seq ?_
      refine T.region ?_
      refine TL.assign hF rfl rfl ?_
      refine TL.nil ?_
      refine TQ.then_n ?_
      refine T.seq ?_
      refine T.seq ?_
      refine T.region ?_
      refine TL.move hF rfl rfl ?_
      refine TL.len hF rfl rfl ?_
      refine TL.move hF rfl rfl ?_
      refine TL.nil ?_
      refine TQ.then_n ?_
      refine T.block ?_
      refine T.loop (ι := Nat) (fun i => i ≤ ls.length) (fun i => [(5, .int .i64 (R : Int)), (7, .slice ba ls.length bc), (11, .slice ta R tc), (12, .slice na R nc), (17, .slice (some ⟨b145, 0, none⟩) R R), (146, .slice ba ls.length bc), (147, .int .i64 (ls.length : Int)), (18, .int .i64 ((ls.take i).flatten.length : Int)), (148, .int .i64 (i : Int))]) (fun i => iseg b145 R (placeL (ls.take i) 0) :: []) (fun i => ls.length - i) 0 (Nat.zero_le _) ⟨rfl, rfl, rfl, rfl, rfl, rfl, rfl, rfl, rfl, trivial⟩ rfl ?_
      rintro i hi
      refine T.seq ?_
      refine T.region ?_
      refine TL.bin hF rfl rfl rfl rfl ?_
      refine TL.nil ?_
      refine TQ.then_n ?_
      refine T.seq ?_
      first | refine T.cond_d rfl (fun ht149 => ?_) (fun ht149 => ?_) | refine T.cond _ rfl (fun ht149 => ?_) (fun ht149 => ?_)
      · refine T.skip ?_
        refine TQ.then_n ?_
        refine T.seq ?_
        refine T.block ?_
        refine T.seq ?_
        refine T.region ?_
        refine TL.move hF rfl rfl ?_
        have hil : i < ls.length := by have h : (i : Int) < ls.length := ht149; omega
        obtain ⟨hbad, oa, oc, hov, hor⟩ := hO.at hil
        have hmem : ls[i] ∈ ls := List.getElem_mem _
        have honl : ls[i].length ≤ 48 := by have := (blocksS_len R rs).2; rw [hbe, ← hls] at this; exact this _ hmem
        have hfl : (ls.take (i + 1)).flatten.length = (ls.take i).flatten.length + ls[i].length := by rw [List.take_succ_eq_append_getElem hil, List.flatten_append]; simp
        have hfr : (ls.take (i + 1)).flatten.length ≤ R := by
          have h1 := hbk.all
          have h2 : (ls.take (i + 1)).flatten.length + (ls.drop (i + 1)).flatten.length = R := by rw [← List.length_append, ← List.flatten_append, List.take_append_drop]; exact h1
          omega
        refine TL.indexAddr hF rfl rfl hbad (by omega) (by omega) rfl ?_
        refine TL.load hF rfl (by rw [Int.toNat_natCast]; exact hov.up (by simp)) rfl ?_
        refine TL.assign hF rfl rfl ?_
        refine TL.assign hF rfl rfl ?_
        refine TL.nil ?_
        refine TQ.then_n ?_
        refine T.seq ?_
        refine T.seq ?_
        refine T.region ?_
        refine TL.move hF rfl rfl ?_
        refine TL.len hF rfl rfl ?_
        refine TL.move hF rfl rfl ?_
        refine TL.nil ?_
        refine TQ.then_n ?_
        refine T.block ?_
        refine T.loop (ι := Nat) (fun k => k ≤ ls[i].length) (fun k => [(5, .int .i64 (R : Int)), (7, .slice ba ls.length bc), (11, .slice ta R tc), (12, .slice na R nc), (17, .slice (some ⟨b145, 0, none⟩) R R), (146, .slice ba ls.length bc), (147, .int .i64 (ls.length : Int)), (18, .int .i64 (((ls.take i).flatten.length + k : Nat) : Int)), (148, .int .i64 (i : Int)), (19, .int .i64 (i : Int)), (20, .slice oa ls[i].length oc), (153, .slice oa ls[i].length oc), (154, .int .i64 (ls[i].length : Int)), (155, .int .i64 (k : Int))]) (fun k => iseg b145 R (placeF ls i ls[i] k) :: []) (fun k => ls[i].length - k) 0 (Nat.zero_le _) ⟨rfl, rfl, rfl, rfl, rfl, rfl, rfl, rfl, rfl, rfl, rfl, rfl, rfl, rfl, trivial⟩ (iseg_congr (fun x _ => placeF_zero.symm)) ?_
        rintro k hk
        refine T.seq ?_
        refine T.region ?_
        refine TL.bin hF rfl rfl rfl rfl ?_
        refine TL.nil ?_
        refine TQ.then_n ?_
        refine T.seq ?_
        first | refine T.cond_d rfl (fun ht156 => ?_) (fun ht156 => ?_) | refine T.cond _ rfl (fun ht156 => ?_) (fun ht156 => ?_)
        · refine T.skip ?_
          refine TQ.then_n ?_
          refine T.seq ?_
          refine T.block ?_
          refine T.seq ?_
          refine T.region ?_
          refine TL.move hF rfl rfl ?_
          have hkl : k < ls[i].length := by have h : (k : Int) < ls[i].length := ht156; omega
          obtain ⟨a, ha⟩ : ∃ a, a = ls[i][k] := ⟨_, rfl⟩
          have haR : a < R := by rw [ha]; exact hbk.lt _ hmem _ (List.getElem_mem _)
          have hp0 : placeF ls i ls[i] k a = 0 := by rw [ha]; exact placeF_here hbk.nd hil hkl
          refine TL.indexAddr hF rfl rfl (hor.nad hkl) (by omega) (by omega) rfl ?_
          refine TL.load hF rfl (v := .int .i64 (a : Int)) (by rw [ha, Int.toNat_natCast]; exact (hor.nat hkl).up (by simp)) rfl ?_
          refine TL.assign hF rfl rfl ?_
          refine TL.assign hF rfl rfl ?_
          refine TL.nil ?_
          refine TQ.then_n ?_
          refine T.seq ?_
          refine T.seq ?_
          refine T.region ?_
          refine TL.move hF rfl rfl ?_
          refine TL.bin hF rfl rfl rfl rfl ?_
          refine TL.move hF rfl rfl ?_
          refine TL.on rfl rfl rfl (decide_eq_false (by omega)) ?_
          refine TL.move hF rfl rfl ?_
          refine TL.on rfl rfl rfl (decide_eq_false (by omega)) ?_
          refine TL.move hF rfl rfl ?_
          refine TL.on rfl rfl rfl (decide_eq_false (by omega)) ?_
          refine TL.bin hF rfl rfl rfl rfl ?_
          refine TL.pickF hF rfl (decide_eq_false (by omega)) rfl rfl ?_
          refine TL.move hF rfl rfl ?_
          refine TL.on rfl rfl rfl (decide_eq_false (by omega)) ?_
          refine TL.move hF rfl rfl ?_
          refine TL.on rfl rfl rfl (decide_eq_false (by omega)) ?_
          refine TL.move hF rfl rfl ?_
          refine TL.on rfl rfl rfl (decide_eq_false (by omega)) ?_
          refine TL.indexAddr hF rfl rfl ⟨_, rfl, rfl⟩ (by omega) (by omega) rfl ?_
          refine TL.on rfl rfl rfl (decide_eq_false (by omega)) ?_
          refine TL.load hF rfl (v := .int .i64 0) (by rw [Int.toNat_natCast, ← hp0]; exact iseg_at (f := placeF ls i ls[i] k) (j := a) List.mem_cons_self (by omega)) rfl ?_
          refine TL.on rfl rfl rfl (decide_eq_false (by omega)) ?_
          refine TL.bin hF rfl rfl rfl rfl ?_
          refine TL.pickF hF rfl (decide_eq_false (by omega)) rfl rfl ?_
          refine TL.move hF rfl rfl ?_
          refine TL.on rfl rfl rfl (decide_eq_false (by omega)) ?_
          refine TL.move hF rfl rfl ?_
          refine TL.on rfl rfl rfl (decide_eq_false (by omega)) ?_
          refine TL.bin hF rfl rfl rfl rfl ?_
          refine TL.on rfl rfl rfl (decide_eq_false (by omega)) ?_
          refine TL.move hF rfl rfl ?_
          refine TL.gd (t := 177) rfl (fun g31_177 => ?_) (fun g31_177 => ?_)
          · refine TL.on rfl rfl rfl (decide_eq_true g31_177) ?_
            refine TL.move hF rfl rfl ?_
            refine TL.on rfl rfl rfl (decide_eq_true g31_177) ?_
            refine TL.move hF rfl rfl ?_
            refine TL.on rfl rfl rfl (decide_eq_true g31_177) ?_
            obtain ⟨k1, rfl⟩ : ∃ k1, k = k1 + 1 := ⟨k - 1, by have h : (0 : Int) < (k : Int) := g31_177; omega⟩
            obtain ⟨a1, ha1⟩ : ∃ a1, a1 = ls[i][k1] := ⟨_, rfl⟩
            have hlt : a1 < a := by rw [ha, ha1]; exact (List.pairwise_iff_getElem.1 (hbk.up _ hmem)) k1 (k1 + 1) (by omega) hkl (by omega)
            refine TL.sub hF rfl rfl (by omega) (by omega) rfl ?_
            rw [show (((k1 + 1 : Nat) : Int) - 1) = (k1 : Int) by omega]
            refine TL.on rfl rfl rfl (decide_eq_true g31_177) ?_
            refine TL.indexAddr hF rfl rfl (hor.nad (i := k1) (by omega)) (by omega) (by omega) rfl ?_
            refine TL.on rfl rfl rfl (decide_eq_true g31_177) ?_
            refine TL.load hF rfl (v := .int .i64 (a1 : Int)) (by rw [ha1, Int.toNat_natCast]; exact (hor.nat (i := k1) (by omega)).up (by simp)) rfl ?_
            refine TL.on rfl rfl rfl (decide_eq_true g31_177) ?_
            refine TL.move hF rfl rfl ?_
            refine TL.on rfl rfl rfl (decide_eq_true g31_177) ?_
            refine TL.bin hF rfl rfl rfl rfl ?_
            refine TL.on rfl rfl rfl (decide_eq_false (by omega)) ?_
            refine TL.pickT hF rfl (decide_eq_true g31_177) rfl rfl ?_
            refine TL.pickF hF rfl (decide_eq_false (by omega)) rfl rfl ?_
            refine TL.nil ?_
            refine TQ.then_n ?_
            refine T.cond_f rfl (decide_eq_false (by omega)) ?_
            refine T.skip ?_
            refine TQ.then_n ?_
            refine T.seq ?_
            refine T.region ?_
            refine TL.move hF rfl rfl ?_
            refine TL.move hF rfl rfl ?_
            refine TL.move hF rfl rfl ?_
            refine TL.add hF rfl rfl (by omega) (by omega) rfl ?_
            refine TL.indexAddr hF rfl rfl ⟨_, rfl, rfl⟩ (by omega) (by omega) rfl ?_
            refine TL.storeI hF 0 rfl rfl rfl rfl (by simp [intC_len]; omega) ?_
            refine TL.nil ?_
            refine TQ.then_n ?_
            refine T.region ?_
            refine TL.move hF rfl rfl ?_
            refine TL.add hF rfl rfl (by omega) (by omega) rfl ?_
            refine TL.assign hF rfl rfl ?_
            refine TL.nil ?_
            refine TQ.block_n ?_
            refine TQ.then_n ?_
            refine T.region ?_
            refine TL.add hF rfl rfl (by omega) (by omega) rfl ?_
            refine TL.move hF rfl rfl ?_
            refine TL.nil ?_
            refine TQ.round ((k1 + 1) + 1) (by omega) (by omega) ⟨rfl, rfl, rfl, rfl, rfl, rfl, rfl, congrArg (fun z => some (Value.int .i64 z)) (by omega), rfl, rfl, rfl, rfl, rfl, rfl, trivial⟩ (iseg_set (j := a) (by simp) (fun x _ => by rw [placeF_succ hbk.nd hil hkl, ha]))
          · refine TL.off hF rfl rfl rfl (decide_eq_false g31_177) rfl ?_
            refine TL.off hF rfl rfl rfl (decide_eq_false g31_177) rfl ?_
            refine TL.off hF rfl rfl rfl (decide_eq_false g31_177) rfl ?_
            refine TL.off hF rfl rfl rfl (decide_eq_false g31_177) rfl ?_
            refine TL.off hF rfl rfl rfl (decide_eq_false g31_177) rfl ?_
            refine TL.off hF rfl rfl rfl (decide_eq_false g31_177) rfl ?_
            refine TL.off hF rfl rfl rfl (decide_eq_false g31_177) rfl ?_
            refine TL.on rfl rfl rfl (decide_eq_false (by omega)) ?_
            refine TL.pickF hF rfl (decide_eq_false g31_177) rfl rfl ?_
            refine TL.pickF hF rfl (decide_eq_false (by omega)) rfl rfl ?_
            refine TL.nil ?_
            refine TQ.then_n ?_
            refine T.cond_f rfl rfl ?_
            refine T.skip ?_
            refine TQ.then_n ?_
            refine T.seq ?_
            refine T.region ?_
            refine TL.move hF rfl rfl ?_
            refine TL.move hF rfl rfl ?_
            refine TL.move hF rfl rfl ?_
            refine TL.add hF rfl rfl (by omega) (by omega) rfl ?_
            refine TL.indexAddr hF rfl rfl ⟨_, rfl, rfl⟩ (by omega) (by omega) rfl ?_
            refine TL.storeI hF 0 rfl rfl rfl rfl (by simp [intC_len]; omega) ?_
            refine TL.nil ?_
            refine TQ.then_n ?_
            refine T.region ?_
            refine TL.move hF rfl rfl ?_
            refine TL.add hF rfl rfl (by omega) (by omega) rfl ?_
            refine TL.assign hF rfl rfl ?_
            refine TL.nil ?_
            refine TQ.block_n ?_
            refine TQ.then_n ?_
            refine T.region ?_
            refine TL.add hF rfl rfl (by omega) (by omega) rfl ?_
            refine TL.move hF rfl rfl ?_
            refine TL.nil ?_
            refine TQ.round (k + 1) (by omega) (by omega) ⟨rfl, rfl, rfl, rfl, rfl, rfl, rfl, congrArg (fun z => some (Value.int .i64 z)) (by omega), rfl, rfl, rfl, rfl, rfl, rfl, trivial⟩ (iseg_set (j := a) (by simp) (fun x _ => by rw [placeF_succ hbk.nd hil hkl, ha]))
        · refine T.exit ?_
          refine TQ.then_x ?_
          refine TQ.then_x ?_
          refine TQ.block_x ?_
          refine TQ.then_n ?_
          refine T.seq ?_
          refine T.region ?_
          refine TL.move hF rfl rfl ?_
          refine TL.len hF rfl rfl ?_
          refine TL.bin hF rfl rfl rfl rfl ?_
          refine TL.nil ?_
          refine TQ.then_n ?_
          refine T.cond_f rfl (decide_eq_false (by have := hbk.ne _ hmem; omega)) ?_
          refine T.skip ?_
          refine TQ.block_n ?_
          refine TQ.then_n ?_
          refine T.region ?_
          refine TL.add hF rfl rfl (by omega) (by omega) rfl ?_
          refine TL.move hF rfl rfl ?_
          refine TL.nil ?_
          have hkl : k = ls[i].length := by have h : ¬ (k : Int) < ls[i].length := ht156; omega
          subst hkl
          refine TQ.round (i + 1) (by omega) (by omega) ⟨rfl, rfl, rfl, rfl, rfl, rfl, rfl, congrArg (fun z : Nat => some (Value.int .i64 (z : Int))) (by rw [hfl]), rfl, trivial⟩ (iseg_congr (fun x _ => placeF_all hil))
      · refine T.exit ?_
        refine TQ.then_x ?_
        refine TQ.then_x ?_
        refine TQ.block_x ?_
        refine TQ.then_n ?_
        refine T.seq ?_
        refine T.seq ?_
        refine T.region ?_
        refine TL.move hF rfl rfl ?_
        refine TL.len hF rfl rfl ?_
        refine TL.move hF rfl rfl ?_
        refine TL.nil ?_
        refine TQ.then_n ?_
        refine T.block ?_
        have hil : i = ls.length := by have h : ¬ (i : Int) < ls.length := ht149; omega
        subst hil
        rw [List.take_length, hbk.all]
        refine T.loop (ι := Nat) (fun a => a ≤ R) (fun a => [(5, .int .i64 (R : Int)), (7, .slice ba ls.length bc), (11, .slice ta R tc), (12, .slice na R nc), (17, .slice (some ⟨b145, 0, none⟩) R R), (18, .int .i64 (R : Int)), (200, .int .i64 (R : Int)), (201, .int .i64 (a : Int))]) (fun _ => iseg b145 R (placeL ls 0) :: []) (fun a => R - a) 0 (Nat.zero_le _) ⟨rfl, rfl, rfl, rfl, rfl, rfl, rfl, rfl, trivial⟩ rfl ?_
        rintro a haR2
        refine T.seq ?_
        refine T.region ?_
        refine TL.bin hF rfl rfl rfl rfl ?_
        refine TL.nil ?_
        refine TQ.then_n ?_
        refine T.seq ?_
        first | refine T.cond_d rfl (fun ht202 => ?_) (fun ht202 => ?_) | refine T.cond _ rfl (fun ht202 => ?_) (fun ht202 => ?_)
        · refine T.skip ?_
          refine TQ.then_n ?_
          refine T.seq ?_
          refine T.block ?_
          refine T.seq ?_
          refine T.region ?_
          refine TL.move hF rfl rfl ?_
          refine TL.assign hF rfl rfl ?_
          refine TL.nil ?_
          refine TQ.then_n ?_
          refine T.seq ?_
          refine T.region ?_
          refine TL.move hF rfl rfl ?_
          refine TL.len hF rfl rfl ?_
          refine TL.move hF rfl rfl ?_
          refine TL.nil ?_
          refine TQ.then_n ?_
          refine T.block ?_
          have haR : a < R := by have h : (a : Int) < R := ht202; omega
          refine T.loop (ι := Nat) (fun j => j ≤ R) (fun j => [(5, .int .i64 (R : Int)), (7, .slice ba ls.length bc), (11, .slice ta R tc), (12, .slice na R nc), (17, .slice (some ⟨b145, 0, none⟩) R R), (18, .int .i64 (R : Int)), (200, .int .i64 (R : Int)), (201, .int .i64 (a : Int)), (23, .int .i64 (a : Int)), (205, .int .i64 (R : Int)), (206, .int .i64 (j : Int))]) (fun _ => iseg b145 R (placeL ls 0) :: []) (fun j => R - j) 0 (Nat.zero_le _) ⟨rfl, rfl, rfl, rfl, rfl, rfl, rfl, rfl, rfl, rfl, rfl, trivial⟩ rfl ?_
          rintro j hj
          refine T.seq ?_
          refine T.region ?_
          refine TL.bin hF rfl rfl rfl rfl ?_
          refine TL.nil ?_
          refine TQ.then_n ?_
          refine T.seq ?_
          first | refine T.cond_d rfl (fun ht207 => ?_) (fun ht207 => ?_) | refine T.cond _ rfl (fun ht207 => ?_) (fun ht207 => ?_)
          · refine T.skip ?_
            refine TQ.then_n ?_
            refine T.seq ?_
            refine T.block ?_
            refine T.seq ?_
            refine T.region ?_
            refine TL.move hF rfl rfl ?_
            refine TL.assign hF rfl rfl ?_
            refine TL.nil ?_
            refine TQ.then_n ?_
            refine T.seq ?_
            have h3 : (EU rs a j = true ∧ ED rs a j = true) ∨ (EU rs a j = true ∧ ED rs a j = false) ∨ (EU rs a j = false ∧ ED rs a j = false) := by
              cases he : EU rs a j <;> cases hd : ED rs a j <;> simp
              have := uses_le (a := a) (b := j) (xs := rs) hd; rw [show uses a j false rs = false from he] at this; cases this
            have hu1 : j < R → EU rs a j = true → placeL ls 0 j ≤ placeL ls 0 a := fun h1 h2 => hbk.use a j haR h1 h2
            have hd1 : j < R → ED rs a j = true → placeL ls 0 j < placeL ls 0 a := fun h1 h2 => hbk.den a j haR h1 h2
            rcases h3 with ⟨hc1, hc2⟩ | ⟨hc1, hc2⟩ | ⟨hc1, hc2⟩
            · have hjR : j < R := by have h : (j : Int) < R := ht207; omega
              refine T.draw ?_
              refine DR.stepV [_] rfl [(11, _, none)] rfl rfl ⟨⟨rfl, by kernel_rfl⟩, trivial⟩ (fun ext => TL.move hF rfl rfl TL.fin) ?_
              refine DR.stepV [_, _] rfl [(23, _, none)] rfl rfl ⟨⟨rfl, by kernel_rfl⟩, trivial⟩ (fun ext => TL.move hF rfl rfl TL.fin) ?_
              refine DR.stepV [_, _, _] rfl [(209, _, some 0), (210, _, some 1)] rfl rfl ⟨⟨rfl, rfl, rfl⟩, ⟨rfl, rfl, rfl⟩, trivial⟩ (fun ext => TL.indexAddr hF rfl rfl ((htf a (by omega)).1) (by omega) (by omega) rfl TL.fin) ?_
              refine DR.stepV [_, _, _, _] rfl [(211, _, some 2)] rfl rfl ⟨⟨rfl, rfl, rfl⟩, trivial⟩ (fun ext => TL.load hF rfl (by rw [Int.toNat_natCast]; exact (htf a (by omega)).2.1.up (by simp)) rfl TL.fin) ?_
              refine DR.stepV [_, _, _, _, _] rfl [(24, _, none)] rfl rfl ⟨⟨rfl, by kernel_rfl⟩, trivial⟩ (fun ext => TL.move hF rfl rfl TL.fin) ?_
              refine DR.stepV [_, _, _, _, _, _] rfl [(212, _, some 3), (213, _, some 4)] rfl rfl ⟨⟨rfl, rfl, rfl⟩, ⟨rfl, rfl, rfl⟩, trivial⟩ (fun ext => TL.indexAddr hF rfl rfl (htA a (by omega)) (by omega) (by omega) rfl TL.fin) ?_
              refine DR.stepV [_, _, _, _, _, _, _] rfl [(214, _, some 5)] rfl rfl ⟨⟨rfl, rfl, rfl⟩, trivial⟩ (fun ext => TL.load hF rfl (by rw [Int.toNat_natCast]; exact (htE a j (by omega) (by omega)).up (by simp)) rfl TL.fin) ?_
              refine DR.stepV [_, _, _, _, _, _, _, _] rfl [(215, _, some 6)] rfl rfl ⟨⟨rfl, rfl, rfl⟩, trivial⟩ (fun ext => TL.move hF rfl rfl TL.fin) ?_
              refine DR.stepV [_, _, _, _, _, _, _, _, _] rfl [(17, _, none), (216, _, some 7)] rfl rfl ⟨⟨rfl, by kernel_rfl⟩, ⟨rfl, rfl, rfl⟩, trivial⟩ (fun ext => TL.on rfl rfl rfl hc1 <| TL.move hF rfl rfl TL.fin) ?_
              refine DR.stepV [_, _, _, _, _, _, _, _, _, _] rfl [(24, _, none), (216, _, some 7)] rfl rfl ⟨⟨rfl, by kernel_rfl⟩, ⟨rfl, rfl, rfl⟩, trivial⟩ (fun ext => TL.on rfl rfl rfl hc1 <| TL.move hF rfl rfl TL.fin) ?_
              refine DR.stepV [_, _, _, _, _, _, _, _, _, _, _] rfl [(217, _, some 8), (218, _, some 9), (216, _, some 7)] rfl rfl ⟨⟨rfl, rfl, rfl⟩, ⟨rfl, rfl, rfl⟩, ⟨rfl, rfl, rfl⟩, trivial⟩ (fun ext => TL.on rfl rfl rfl hc1 <| TL.indexAddr hF rfl rfl ⟨_, rfl, rfl⟩ (by omega) (by omega) rfl TL.fin) ?_
              refine DR.stepV [_, _, _, _, _, _, _, _, _, _, _, _] rfl [(219, _, some 10), (216, _, some 7)] rfl rfl ⟨⟨rfl, rfl, rfl⟩, ⟨rfl, rfl, rfl⟩, trivial⟩ (fun ext => TL.on rfl rfl rfl hc1 <| TL.load hF rfl (v := .int .i64 (placeL ls 0 j)) (by rw [Int.toNat_natCast]; exact iseg_at (f := placeL ls 0) (j := j) List.mem_cons_self (by omega)) rfl TL.fin) ?_
              refine DR.stepV [_, _, _, _, _, _, _, _, _, _, _, _, _] rfl [(17, _, none), (216, _, some 7)] rfl rfl ⟨⟨rfl, by kernel_rfl⟩, ⟨rfl, rfl, rfl⟩, trivial⟩ (fun ext => TL.on rfl rfl rfl hc1 <| TL.move hF rfl rfl TL.fin) ?_
              refine DR.stepV [_, _, _, _, _, _, _, _, _, _, _, _, _, _] rfl [(23, _, none), (216, _, some 7)] rfl rfl ⟨⟨rfl, by kernel_rfl⟩, ⟨rfl, rfl, rfl⟩, trivial⟩ (fun ext => TL.on rfl rfl rfl hc1 <| TL.move hF rfl rfl TL.fin) ?_
              refine DR.stepV [_, _, _, _, _, _, _, _, _, _, _, _, _, _, _] rfl [(221, _, some 12), (222, _, some 13), (216, _, some 7)] rfl rfl ⟨⟨rfl, rfl, rfl⟩, ⟨rfl, rfl, rfl⟩, ⟨rfl, rfl, rfl⟩, trivial⟩ (fun ext => TL.on rfl rfl rfl hc1 <| TL.indexAddr hF rfl rfl ⟨_, rfl, rfl⟩ (by omega) (by omega) rfl TL.fin) ?_
              refine DR.stepV [_, _, _, _, _, _, _, _, _, _, _, _, _, _, _, _] rfl [(223, _, some 14), (216, _, some 7)] rfl rfl ⟨⟨rfl, rfl, rfl⟩, ⟨rfl, rfl, rfl⟩, trivial⟩ (fun ext => TL.on rfl rfl rfl hc1 <| TL.load hF rfl (v := .int .i64 (placeL ls 0 a)) (by rw [Int.toNat_natCast]; exact iseg_at (f := placeL ls 0) (j := a) List.mem_cons_self (by omega)) rfl TL.fin) ?_
              refine DR.stepV [_, _, _, _, _, _, _, _, _, _, _, _, _, _, _, _, _] rfl [(220, _, some 11), (224, _, some 15), (216, _, some 7)] rfl rfl ⟨⟨rfl, rfl, rfl⟩, ⟨rfl, rfl, rfl⟩, ⟨rfl, rfl, rfl⟩, trivial⟩ (fun ext => TL.on rfl rfl rfl hc1 <| TL.bin hF rfl rfl rfl rfl TL.fin) ?_
              refine DR.stepV [_, _, _, _, _, _, _, _, _, _, _, _, _, _, _, _, _, _] rfl [(216, _, some 7), (225, _, some 16)] rfl rfl ⟨⟨rfl, rfl, rfl⟩, ⟨rfl, rfl, rfl⟩, trivial⟩ (fun ext => TL.pickT hF rfl hc1 rfl rfl TL.fin) ?_
              refine DR.stepV [_, _, _, _, _, _, _, _, _, _, _, _, _, _, _, _, _, _, _] rfl [(226, _, some 17)] rfl rfl ⟨⟨rfl, rfl, rfl⟩, trivial⟩ (fun ext => TL.move hF rfl rfl TL.fin) ?_
              refine DR.stepV [_, _, _, _, _, _, _, _, _, _, _, _, _, _, _, _, _, _, _, _] rfl [(12, _, none), (227, _, some 18)] rfl rfl ⟨⟨rfl, by kernel_rfl⟩, ⟨rfl, rfl, rfl⟩, trivial⟩ (fun ext => TL.on rfl rfl rfl (decide_eq_false (by have := hu1 hjR hc1; omega)) <| TL.move hF rfl rfl TL.fin) ?_
              refine DR.stepV [_, _, _, _, _, _, _, _, _, _, _, _, _, _, _, _, _, _, _, _, _] rfl [(23, _, none), (227, _, some 18)] rfl rfl ⟨⟨rfl, by kernel_rfl⟩, ⟨rfl, rfl, rfl⟩, trivial⟩ (fun ext => TL.on rfl rfl rfl (decide_eq_false (by have := hu1 hjR hc1; omega)) <| TL.move hF rfl rfl TL.fin) ?_
              refine DR.stepV [_, _, _, _, _, _, _, _, _, _, _, _, _, _, _, _, _, _, _, _, _, _] rfl [(228, _, some 19), (229, _, some 20), (227, _, some 18)] rfl rfl ⟨⟨rfl, rfl, rfl⟩, ⟨rfl, rfl, rfl⟩, ⟨rfl, rfl, rfl⟩, trivial⟩ (fun ext => TL.on rfl rfl rfl (decide_eq_false (by have := hu1 hjR hc1; omega)) <| TL.indexAddr hF rfl rfl ((hnf a (by omega)).1) (by omega) (by omega) rfl TL.fin) ?_
              refine DR.stepV [_, _, _, _, _, _, _, _, _, _, _, _, _, _, _, _, _, _, _, _, _, _, _] rfl [(230, _, some 21), (227, _, some 18)] rfl rfl ⟨⟨rfl, rfl, rfl⟩, ⟨rfl, rfl, rfl⟩, trivial⟩ (fun ext => TL.on rfl rfl rfl (decide_eq_false (by have := hu1 hjR hc1; omega)) <| TL.load hF rfl (by rw [Int.toNat_natCast]; exact (hnf a (by omega)).2.1.up (by simp)) rfl TL.fin) ?_
              refine DR.stepV [_, _, _, _, _, _, _, _, _, _, _, _, _, _, _, _, _, _, _, _, _, _, _, _] rfl [(24, _, none), (227, _, some 18)] rfl rfl ⟨⟨rfl, by kernel_rfl⟩, ⟨rfl, rfl, rfl⟩, trivial⟩ (fun ext => TL.on rfl rfl rfl (decide_eq_false (by have := hu1 hjR hc1; omega)) <| TL.move hF rfl rfl TL.fin) ?_
              refine DR.stepV [_, _, _, _, _, _, _, _, _, _, _, _, _, _, _, _, _, _, _, _, _, _, _, _, _] rfl [(231, _, some 22), (232, _, some 23), (227, _, some 18)] rfl rfl ⟨⟨rfl, rfl, rfl⟩, ⟨rfl, rfl, rfl⟩, ⟨rfl, rfl, rfl⟩, trivial⟩ (fun ext => TL.on rfl rfl rfl (decide_eq_false (by have := hu1 hjR hc1; omega)) <| TL.indexAddr hF rfl rfl (hnA a (by omega)) (by omega) (by omega) rfl TL.fin) ?_
              refine DR.stepV [_, _, _, _, _, _, _, _, _, _, _, _, _, _, _, _, _, _, _, _, _, _, _, _, _, _] rfl [(233, _, some 24), (227, _, some 18)] rfl rfl ⟨⟨rfl, rfl, rfl⟩, ⟨rfl, rfl, rfl⟩, trivial⟩ (fun ext => TL.on rfl rfl rfl (decide_eq_false (by have := hu1 hjR hc1; omega)) <| TL.load hF rfl (by rw [Int.toNat_natCast]; exact (hnE a j (by omega) (by omega)).up (by simp)) rfl TL.fin) ?_
              refine DR.stepV [_, _, _, _, _, _, _, _, _, _, _, _, _, _, _, _, _, _, _, _, _, _, _, _, _, _, _] rfl [(234, _, some 25), (227, _, some 18)] rfl rfl ⟨⟨rfl, rfl, rfl⟩, ⟨rfl, rfl, rfl⟩, trivial⟩ (fun ext => TL.on rfl rfl rfl (decide_eq_false (by have := hu1 hjR hc1; omega)) <| TL.move hF rfl rfl TL.fin) ?_
              refine DR.stepV [_, _, _, _, _, _, _, _, _, _, _, _, _, _, _, _, _, _, _, _, _, _, _, _, _, _, _, _] rfl [(17, _, none), (235, _, some 26)] rfl rfl ⟨⟨rfl, by kernel_rfl⟩, ⟨rfl, rfl, rfl⟩, trivial⟩ (fun ext => TL.on rfl rfl rfl hc2 <| TL.move hF rfl rfl TL.fin) ?_
              refine DR.stepV [_, _, _, _, _, _, _, _, _, _, _, _, _, _, _, _, _, _, _, _, _, _, _, _, _, _, _, _, _] rfl [(24, _, none), (235, _, some 26)] rfl rfl ⟨⟨rfl, by kernel_rfl⟩, ⟨rfl, rfl, rfl⟩, trivial⟩ (fun ext => TL.on rfl rfl rfl hc2 <| TL.move hF rfl rfl TL.fin) ?_
              refine DR.stepV [_, _, _, _, _, _, _, _, _, _, _, _, _, _, _, _, _, _, _, _, _, _, _, _, _, _, _, _, _, _] rfl [(236, _, some 27), (237, _, some 28), (235, _, some 26)] rfl rfl ⟨⟨rfl, rfl, rfl⟩, ⟨rfl, rfl, rfl⟩, ⟨rfl, rfl, rfl⟩, trivial⟩ (fun ext => TL.on rfl rfl rfl hc2 <| TL.indexAddr hF rfl rfl ⟨_, rfl, rfl⟩ (by omega) (by omega) rfl TL.fin) ?_
              refine DR.stepV [_, _, _, _, _, _, _, _, _, _, _, _, _, _, _, _, _, _, _, _, _, _, _, _, _, _, _, _, _, _, _] rfl [(238, _, some 29), (235, _, some 26)] rfl rfl ⟨⟨rfl, rfl, rfl⟩, ⟨rfl, rfl, rfl⟩, trivial⟩ (fun ext => TL.on rfl rfl rfl hc2 <| TL.load hF rfl (v := .int .i64 (placeL ls 0 j)) (by rw [Int.toNat_natCast]; exact iseg_at (f := placeL ls 0) (j := j) List.mem_cons_self (by omega)) rfl TL.fin) ?_
              refine DR.stepV [_, _, _, _, _, _, _, _, _, _, _, _, _, _, _, _, _, _, _, _, _, _, _, _, _, _, _, _, _, _, _, _] rfl [(17, _, none), (235, _, some 26)] rfl rfl ⟨⟨rfl, by kernel_rfl⟩, ⟨rfl, rfl, rfl⟩, trivial⟩ (fun ext => TL.on rfl rfl rfl hc2 <| TL.move hF rfl rfl TL.fin) ?_
              refine DR.stepV [_, _, _, _, _, _, _, _, _, _, _, _, _, _, _, _, _, _, _, _, _, _, _, _, _, _, _, _, _, _, _, _, _] rfl [(23, _, none), (235, _, some 26)] rfl rfl ⟨⟨rfl, by kernel_rfl⟩, ⟨rfl, rfl, rfl⟩, trivial⟩ (fun ext => TL.on rfl rfl rfl hc2 <| TL.move hF rfl rfl TL.fin) ?_
              refine DR.stepV [_, _, _, _, _, _, _, _, _, _, _, _, _, _, _, _, _, _, _, _, _, _, _, _, _, _, _, _, _, _, _, _, _, _] rfl [(240, _, some 31), (241, _, some 32), (235, _, some 26)] rfl rfl ⟨⟨rfl, rfl, rfl⟩, ⟨rfl, rfl, rfl⟩, ⟨rfl, rfl, rfl⟩, trivial⟩ (fun ext => TL.on rfl rfl rfl hc2 <| TL.indexAddr hF rfl rfl ⟨_, rfl, rfl⟩ (by omega) (by omega) rfl TL.fin) ?_
              refine DR.stepV [_, _, _, _, _, _, _, _, _, _, _, _, _, _, _, _, _, _, _, _, _, _, _, _, _, _, _, _, _, _, _, _, _, _, _] rfl [(242, _, some 33), (235, _, some 26)] rfl rfl ⟨⟨rfl, rfl, rfl⟩, ⟨rfl, rfl, rfl⟩, trivial⟩ (fun ext => TL.on rfl rfl rfl hc2 <| TL.load hF rfl (v := .int .i64 (placeL ls 0 a)) (by rw [Int.toNat_natCast]; exact iseg_at (f := placeL ls 0) (j := a) List.mem_cons_self (by omega)) rfl TL.fin) ?_
              refine DR.done [(243, _), (242, _), (241, _), (240, _), (239, _), (238, _), (237, _), (236, _), (235, _), (234, _), (233, _), (232, _), (231, _), (230, _), (229, _), (228, _), (227, _), (226, _), (225, _), (224, _), (223, _), (222, _), (221, _), (220, _), (219, _), (218, _), (217, _), (216, _), (215, _), (214, _), (213, _), (212, _), (211, _), (210, _), (209, _)] [_, _, _] mixed (by kernel_rfl) (by kernel_rfl) (by kernel_rfl) rfl rfl ?_
              refine TL.on rfl rfl rfl hc2 ?_
              refine TL.bin hF rfl rfl rfl rfl ?_
              refine TL.on rfl rfl rfl (decide_eq_false (by have := hu1 hjR hc1; omega)) ?_
              refine TL.pickT hF rfl hc2 rfl rfl ?_
              refine TL.pickF hF rfl (decide_eq_false (by have := hu1 hjR hc1; omega)) rfl rfl ?_
              refine TL.nil ?_
              refine TQ.then_n ?_
              refine T.cond_f rfl (decide_eq_false (by have := hd1 hjR hc2; omega)) ?_
              refine T.skip ?_
              refine TQ.block_n ?_
              refine TQ.then_n ?_
              refine T.region ?_
              refine TL.add hF rfl rfl (by omega) (by omega) rfl ?_
              refine TL.move hF rfl rfl ?_
              refine TL.nil ?_
              exact TQ.round (j + 1) (by omega) (by omega) ⟨rfl, rfl, rfl, rfl, rfl, rfl, rfl, rfl, rfl, rfl, rfl, trivial⟩ rfl
            · have hjR : j < R := by have h : (j : Int) < R := ht207; omega
              refine T.draw ?_
              refine DR.stepV [_] rfl [(11, _, none)] rfl rfl ⟨⟨rfl, by kernel_rfl⟩, trivial⟩ (fun ext => TL.move hF rfl rfl TL.fin) ?_
              refine DR.stepV [_, _] rfl [(23, _, none)] rfl rfl ⟨⟨rfl, by kernel_rfl⟩, trivial⟩ (fun ext => TL.move hF rfl rfl TL.fin) ?_
              refine DR.stepV [_, _, _] rfl [(209, _, some 0), (210, _, some 1)] rfl rfl ⟨⟨rfl, rfl, rfl⟩, ⟨rfl, rfl, rfl⟩, trivial⟩ (fun ext => TL.indexAddr hF rfl rfl ((htf a (by omega)).1) (by omega) (by omega) rfl TL.fin) ?_
              refine DR.stepV [_, _, _, _] rfl [(211, _, some 2)] rfl rfl ⟨⟨rfl, rfl, rfl⟩, trivial⟩ (fun ext => TL.load hF rfl (by rw [Int.toNat_natCast]; exact (htf a (by omega)).2.1.up (by simp)) rfl TL.fin) ?_
              refine DR.stepV [_, _, _, _, _] rfl [(24, _, none)] rfl rfl ⟨⟨rfl, by kernel_rfl⟩, trivial⟩ (fun ext => TL.move hF rfl rfl TL.fin) ?_
              refine DR.stepV [_, _, _, _, _, _] rfl [(212, _, some 3), (213, _, some 4)] rfl rfl ⟨⟨rfl, rfl, rfl⟩, ⟨rfl, rfl, rfl⟩, trivial⟩ (fun ext => TL.indexAddr hF rfl rfl (htA a (by omega)) (by omega) (by omega) rfl TL.fin) ?_
              refine DR.stepV [_, _, _, _, _, _, _] rfl [(214, _, some 5)] rfl rfl ⟨⟨rfl, rfl, rfl⟩, trivial⟩ (fun ext => TL.load hF rfl (by rw [Int.toNat_natCast]; exact (htE a j (by omega) (by omega)).up (by simp)) rfl TL.fin) ?_
              refine DR.stepV [_, _, _, _, _, _, _, _] rfl [(215, _, some 6)] rfl rfl ⟨⟨rfl, rfl, rfl⟩, trivial⟩ (fun ext => TL.move hF rfl rfl TL.fin) ?_
              refine DR.stepV [_, _, _, _, _, _, _, _, _] rfl [(17, _, none), (216, _, some 7)] rfl rfl ⟨⟨rfl, by kernel_rfl⟩, ⟨rfl, rfl, rfl⟩, trivial⟩ (fun ext => TL.on rfl rfl rfl hc1 <| TL.move hF rfl rfl TL.fin) ?_
              refine DR.stepV [_, _, _, _, _, _, _, _, _, _] rfl [(24, _, none), (216, _, some 7)] rfl rfl ⟨⟨rfl, by kernel_rfl⟩, ⟨rfl, rfl, rfl⟩, trivial⟩ (fun ext => TL.on rfl rfl rfl hc1 <| TL.move hF rfl rfl TL.fin) ?_
              refine DR.stepV [_, _, _, _, _, _, _, _, _, _, _] rfl [(217, _, some 8), (218, _, some 9), (216, _, some 7)] rfl rfl ⟨⟨rfl, rfl, rfl⟩, ⟨rfl, rfl, rfl⟩, ⟨rfl, rfl, rfl⟩, trivial⟩ (fun ext => TL.on rfl rfl rfl hc1 <| TL.indexAddr hF rfl rfl ⟨_, rfl, rfl⟩ (by omega) (by omega) rfl TL.fin) ?_
              refine DR.stepV [_, _, _, _, _, _, _, _, _, _, _, _] rfl [(219, _, some 10), (216, _, some 7)] rfl rfl ⟨⟨rfl, rfl, rfl⟩, ⟨rfl, rfl, rfl⟩, trivial⟩ (fun ext => TL.on rfl rfl rfl hc1 <| TL.load hF rfl (v := .int .i64 (placeL ls 0 j)) (by rw [Int.toNat_natCast]; exact iseg_at (f := placeL ls 0) (j := j) List.mem_cons_self (by omega)) rfl TL.fin) ?_
              refine DR.stepV [_, _, _, _, _, _, _, _, _, _, _, _, _] rfl [(17, _, none), (216, _, some 7)] rfl rfl ⟨⟨rfl, by kernel_rfl⟩, ⟨rfl, rfl, rfl⟩, trivial⟩ (fun ext => TL.on rfl rfl rfl hc1 <| TL.move hF rfl rfl TL.fin) ?_
              refine DR.stepV [_, _, _, _, _, _, _, _, _, _, _, _, _, _] rfl [(23, _, none), (216, _, some 7)] rfl rfl ⟨⟨rfl, by kernel_rfl⟩, ⟨rfl, rfl, rfl⟩, trivial⟩ (fun ext => TL.on rfl rfl rfl hc1 <| TL.move hF rfl rfl TL.fin) ?_
              refine DR.stepV [_, _, _, _, _, _, _, _, _, _, _, _, _, _, _] rfl [(221, _, some 12), (222, _, some 13), (216, _, some 7)] rfl rfl ⟨⟨rfl, rfl, rfl⟩, ⟨rfl, rfl, rfl⟩, ⟨rfl, rfl, rfl⟩, trivial⟩ (fun ext => TL.on rfl rfl rfl hc1 <| TL.indexAddr hF rfl rfl ⟨_, rfl, rfl⟩ (by omega) (by omega) rfl TL.fin) ?_
              refine DR.stepV [_, _, _, _, _, _, _, _, _, _, _, _, _, _, _, _] rfl [(223, _, some 14), (216, _, some 7)] rfl rfl ⟨⟨rfl, rfl, rfl⟩, ⟨rfl, rfl, rfl⟩, trivial⟩ (fun ext => TL.on rfl rfl rfl hc1 <| TL.load hF rfl (v := .int .i64 (placeL ls 0 a)) (by rw [Int.toNat_natCast]; exact iseg_at (f := placeL ls 0) (j := a) List.mem_cons_self (by omega)) rfl TL.fin) ?_
              refine DR.stepV [_, _, _, _, _, _, _, _, _, _, _, _, _, _, _, _, _] rfl [(220, _, some 11), (224, _, some 15), (216, _, some 7)] rfl rfl ⟨⟨rfl, rfl, rfl⟩, ⟨rfl, rfl, rfl⟩, ⟨rfl, rfl, rfl⟩, trivial⟩ (fun ext => TL.on rfl rfl rfl hc1 <| TL.bin hF rfl rfl rfl rfl TL.fin) ?_
              refine DR.stepV [_, _, _, _, _, _, _, _, _, _, _, _, _, _, _, _, _, _] rfl [(216, _, some 7), (225, _, some 16)] rfl rfl ⟨⟨rfl, rfl, rfl⟩, ⟨rfl, rfl, rfl⟩, trivial⟩ (fun ext => TL.pickT hF rfl hc1 rfl rfl TL.fin) ?_
              refine DR.stepV [_, _, _, _, _, _, _, _, _, _, _, _, _, _, _, _, _, _, _] rfl [(226, _, some 17)] rfl rfl ⟨⟨rfl, rfl, rfl⟩, trivial⟩ (fun ext => TL.move hF rfl rfl TL.fin) ?_
              refine DR.stepV [_, _, _, _, _, _, _, _, _, _, _, _, _, _, _, _, _, _, _, _] rfl [(12, _, none), (227, _, some 18)] rfl rfl ⟨⟨rfl, by kernel_rfl⟩, ⟨rfl, rfl, rfl⟩, trivial⟩ (fun ext => TL.on rfl rfl rfl (decide_eq_false (by have := hu1 hjR hc1; omega)) <| TL.move hF rfl rfl TL.fin) ?_
              refine DR.stepV [_, _, _, _, _, _, _, _, _, _, _, _, _, _, _, _, _, _, _, _, _] rfl [(23, _, none), (227, _, some 18)] rfl rfl ⟨⟨rfl, by kernel_rfl⟩, ⟨rfl, rfl, rfl⟩, trivial⟩ (fun ext => TL.on rfl rfl rfl (decide_eq_false (by have := hu1 hjR hc1; omega)) <| TL.move hF rfl rfl TL.fin) ?_
              refine DR.stepV [_, _, _, _, _, _, _, _, _, _, _, _, _, _, _, _, _, _, _, _, _, _] rfl [(228, _, some 19), (229, _, some 20), (227, _, some 18)] rfl rfl ⟨⟨rfl, rfl, rfl⟩, ⟨rfl, rfl, rfl⟩, ⟨rfl, rfl, rfl⟩, trivial⟩ (fun ext => TL.on rfl rfl rfl (decide_eq_false (by have := hu1 hjR hc1; omega)) <| TL.indexAddr hF rfl rfl ((hnf a (by omega)).1) (by omega) (by omega) rfl TL.fin) ?_
              refine DR.stepV [_, _, _, _, _, _, _, _, _, _, _, _, _, _, _, _, _, _, _, _, _, _, _] rfl [(230, _, some 21), (227, _, some 18)] rfl rfl ⟨⟨rfl, rfl, rfl⟩, ⟨rfl, rfl, rfl⟩, trivial⟩ (fun ext => TL.on rfl rfl rfl (decide_eq_false (by have := hu1 hjR hc1; omega)) <| TL.load hF rfl (by rw [Int.toNat_natCast]; exact (hnf a (by omega)).2.1.up (by simp)) rfl TL.fin) ?_
              refine DR.stepV [_, _, _, _, _, _, _, _, _, _, _, _, _, _, _, _, _, _, _, _, _, _, _, _] rfl [(24, _, none), (227, _, some 18)] rfl rfl ⟨⟨rfl, by kernel_rfl⟩, ⟨rfl, rfl, rfl⟩, trivial⟩ (fun ext => TL.on rfl rfl rfl (decide_eq_false (by have := hu1 hjR hc1; omega)) <| TL.move hF rfl rfl TL.fin) ?_
              refine DR.stepV [_, _, _, _, _, _, _, _, _, _, _, _, _, _, _, _, _, _, _, _, _, _, _, _, _] rfl [(231, _, some 22), (232, _, some 23), (227, _, some 18)] rfl rfl ⟨⟨rfl, rfl, rfl⟩, ⟨rfl, rfl, rfl⟩, ⟨rfl, rfl, rfl⟩, trivial⟩ (fun ext => TL.on rfl rfl rfl (decide_eq_false (by have := hu1 hjR hc1; omega)) <| TL.indexAddr hF rfl rfl (hnA a (by omega)) (by omega) (by omega) rfl TL.fin) ?_
              refine DR.stepV [_, _, _, _, _, _, _, _, _, _, _, _, _, _, _, _, _, _, _, _, _, _, _, _, _, _] rfl [(233, _, some 24), (227, _, some 18)] rfl rfl ⟨⟨rfl, rfl, rfl⟩, ⟨rfl, rfl, rfl⟩, trivial⟩ (fun ext => TL.on rfl rfl rfl (decide_eq_false (by have := hu1 hjR hc1; omega)) <| TL.load hF rfl (by rw [Int.toNat_natCast]; exact (hnE a j (by omega) (by omega)).up (by simp)) rfl TL.fin) ?_
              refine DR.stepV [_, _, _, _, _, _, _, _, _, _, _, _, _, _, _, _, _, _, _, _, _, _, _, _, _, _, _] rfl [(234, _, some 25), (227, _, some 18)] rfl rfl ⟨⟨rfl, rfl, rfl⟩, ⟨rfl, rfl, rfl⟩, trivial⟩ (fun ext => TL.on rfl rfl rfl (decide_eq_false (by have := hu1 hjR hc1; omega)) <| TL.move hF rfl rfl TL.fin) ?_
              refine DR.stepV [_, _, _, _, _, _, _, _, _, _, _, _, _, _, _, _, _, _, _, _, _, _, _, _, _, _, _, _] rfl [(17, _, none), (235, _, some 26)] rfl rfl ⟨⟨rfl, by kernel_rfl⟩, ⟨rfl, rfl, rfl⟩, trivial⟩ (fun ext => TL.off hF rfl rfl rfl hc2 rfl TL.fin) ?_
              refine DR.stepV [_, _, _, _, _, _, _, _, _, _, _, _, _, _, _, _, _, _, _, _, _, _, _, _, _, _, _, _, _] rfl [(24, _, none), (235, _, some 26)] rfl rfl ⟨⟨rfl, by kernel_rfl⟩, ⟨rfl, rfl, rfl⟩, trivial⟩ (fun ext => TL.off hF rfl rfl rfl hc2 rfl TL.fin) ?_
              refine DR.stepV [_, _, _, _, _, _, _, _, _, _, _, _, _, _, _, _, _, _, _, _, _, _, _, _, _, _, _, _, _, _] rfl [(236, _, some 27), (237, _, some 28), (235, _, some 26)] rfl rfl ⟨⟨rfl, rfl, rfl⟩, ⟨rfl, rfl, rfl⟩, ⟨rfl, rfl, rfl⟩, trivial⟩ (fun ext => TL.off hF rfl rfl rfl hc2 rfl TL.fin) ?_
              refine DR.stepV [_, _, _, _, _, _, _, _, _, _, _, _, _, _, _, _, _, _, _, _, _, _, _, _, _, _, _, _, _, _, _] rfl [(238, _, some 29), (235, _, some 26)] rfl rfl ⟨⟨rfl, rfl, rfl⟩, ⟨rfl, rfl, rfl⟩, trivial⟩ (fun ext => TL.off hF rfl rfl rfl hc2 rfl TL.fin) ?_
              refine DR.stepV [_, _, _, _, _, _, _, _, _, _, _, _, _, _, _, _, _, _, _, _, _, _, _, _, _, _, _, _, _, _, _, _] rfl [(17, _, none), (235, _, some 26)] rfl rfl ⟨⟨rfl, by kernel_rfl⟩, ⟨rfl, rfl, rfl⟩, trivial⟩ (fun ext => TL.off hF rfl rfl rfl hc2 rfl TL.fin) ?_
              refine DR.stepV [_, _, _, _, _, _, _, _, _, _, _, _, _, _, _, _, _, _, _, _, _, _, _, _, _, _, _, _, _, _, _, _, _] rfl [(23, _, none), (235, _, some 26)] rfl rfl ⟨⟨rfl, by kernel_rfl⟩, ⟨rfl, rfl, rfl⟩, trivial⟩ (fun ext => TL.off hF rfl rfl rfl hc2 rfl TL.fin) ?_
              refine DR.stepV [_, _, _, _, _, _, _, _, _, _, _, _, _, _, _, _, _, _, _, _, _, _, _, _, _, _, _, _, _, _, _, _, _, _] rfl [(240, _, some 31), (241, _, some 32), (235, _, some 26)] rfl rfl ⟨⟨rfl, rfl, rfl⟩, ⟨rfl, rfl, rfl⟩, ⟨rfl, rfl, rfl⟩, trivial⟩ (fun ext => TL.off hF rfl rfl rfl hc2 rfl TL.fin) ?_
              refine DR.stepV [_, _, _, _, _, _, _, _, _, _, _, _, _, _, _, _, _, _, _, _, _, _, _, _, _, _, _, _, _, _, _, _, _, _, _] rfl [(242, _, some 33), (235, _, some 26)] rfl rfl ⟨⟨rfl, rfl, rfl⟩, ⟨rfl, rfl, rfl⟩, trivial⟩ (fun ext => TL.off hF rfl rfl rfl hc2 rfl TL.fin) ?_
              refine DR.done [(243, _), (242, _), (241, _), (240, _), (239, _), (238, _), (237, _), (236, _), (235, _), (234, _), (233, _), (232, _), (231, _), (230, _), (229, _), (228, _), (227, _), (226, _), (225, _), (224, _), (223, _), (222, _), (221, _), (220, _), (219, _), (218, _), (217, _), (216, _), (215, _), (214, _), (213, _), (212, _), (211, _), (210, _), (209, _)] [_, _, _] mixed (by kernel_rfl) (by kernel_rfl) (by kernel_rfl) rfl rfl ?_
              refine TL.off hF rfl rfl rfl hc2 rfl ?_
              refine TL.on rfl rfl rfl (decide_eq_false (by have := hu1 hjR hc1; omega)) ?_
              refine TL.pickF hF rfl hc2 rfl rfl ?_
              refine TL.pickF hF rfl (decide_eq_false (by have := hu1 hjR hc1; omega)) rfl rfl ?_
              refine TL.nil ?_
              refine TQ.then_n ?_
              refine T.cond_f rfl rfl ?_
              refine T.skip ?_
              refine TQ.block_n ?_
              refine TQ.then_n ?_
              refine T.region ?_
              refine TL.add hF rfl rfl (by omega) (by omega) rfl ?_
              refine TL.move hF rfl rfl ?_
              refine TL.nil ?_
              exact TQ.round (j + 1) (by omega) (by omega) ⟨rfl, rfl, rfl, rfl, rfl, rfl, rfl, rfl, rfl, rfl, rfl, trivial⟩ rfl
            · have hjR : j < R := by have h : (j : Int) < R := ht207; omega
              refine T.draw ?_
              refine DR.stepV [_] rfl [(11, _, none)] rfl rfl ⟨⟨rfl, by kernel_rfl⟩, trivial⟩ (fun ext => TL.move hF rfl rfl TL.fin) ?_
              refine DR.stepV [_, _] rfl [(23, _, none)] rfl rfl ⟨⟨rfl, by kernel_rfl⟩, trivial⟩ (fun ext => TL.move hF rfl rfl TL.fin) ?_
              refine DR.stepV [_, _, _] rfl [(209, _, some 0), (210, _, some 1)] rfl rfl ⟨⟨rfl, rfl, rfl⟩, ⟨rfl, rfl, rfl⟩, trivial⟩ (fun ext => TL.indexAddr hF rfl rfl ((htf a (by omega)).1) (by omega) (by omega) rfl TL.fin) ?_
              refine DR.stepV [_, _, _, _] rfl [(211, _, some 2)] rfl rfl ⟨⟨rfl, rfl, rfl⟩, trivial⟩ (fun ext => TL.load hF rfl (by rw [Int.toNat_natCast]; exact (htf a (by omega)).2.1.up (by simp)) rfl TL.fin) ?_
              refine DR.stepV [_, _, _, _, _] rfl [(24, _, none)] rfl rfl ⟨⟨rfl, by kernel_rfl⟩, trivial⟩ (fun ext => TL.move hF rfl rfl TL.fin) ?_
              refine DR.stepV [_, _, _, _, _, _] rfl [(212, _, some 3), (213, _, some 4)] rfl rfl ⟨⟨rfl, rfl, rfl⟩, ⟨rfl, rfl, rfl⟩, trivial⟩ (fun ext => TL.indexAddr hF rfl rfl (htA a (by omega)) (by omega) (by omega) rfl TL.fin) ?_
              refine DR.stepV [_, _, _, _, _, _, _] rfl [(214, _, some 5)] rfl rfl ⟨⟨rfl, rfl, rfl⟩, trivial⟩ (fun ext => TL.load hF rfl (by rw [Int.toNat_natCast]; exact (htE a j (by omega) (by omega)).up (by simp)) rfl TL.fin) ?_
              refine DR.stepV [_, _, _, _, _, _, _, _] rfl [(215, _, some 6)] rfl rfl ⟨⟨rfl, rfl, rfl⟩, trivial⟩ (fun ext => TL.move hF rfl rfl TL.fin) ?_
              refine DR.stepV [_, _, _, _, _, _, _, _, _] rfl [(17, _, none), (216, _, some 7)] rfl rfl ⟨⟨rfl, by kernel_rfl⟩, ⟨rfl, rfl, rfl⟩, trivial⟩ (fun ext => TL.off hF rfl rfl rfl hc1 rfl TL.fin) ?_
              refine DR.stepV [_, _, _, _, _, _, _, _, _, _] rfl [(24, _, none), (216, _, some 7)] rfl rfl ⟨⟨rfl, by kernel_rfl⟩, ⟨rfl, rfl, rfl⟩, trivial⟩ (fun ext => TL.off hF rfl rfl rfl hc1 rfl TL.fin) ?_
              refine DR.stepV [_, _, _, _, _, _, _, _, _, _, _] rfl [(217, _, some 8), (218, _, some 9), (216, _, some 7)] rfl rfl ⟨⟨rfl, rfl, rfl⟩, ⟨rfl, rfl, rfl⟩, ⟨rfl, rfl, rfl⟩, trivial⟩ (fun ext => TL.off hF rfl rfl rfl hc1 rfl TL.fin) ?_
              refine DR.stepV [_, _, _, _, _, _, _, _, _, _, _, _] rfl [(219, _, some 10), (216, _, some 7)] rfl rfl ⟨⟨rfl, rfl, rfl⟩, ⟨rfl, rfl, rfl⟩, trivial⟩ (fun ext => TL.off hF rfl rfl rfl hc1 rfl TL.fin) ?_
              refine DR.stepV [_, _, _, _, _, _, _, _, _, _, _, _, _] rfl [(17, _, none), (216, _, some 7)] rfl rfl ⟨⟨rfl, by kernel_rfl⟩, ⟨rfl, rfl, rfl⟩, trivial⟩ (fun ext => TL.off hF rfl rfl rfl hc1 rfl TL.fin) ?_
              refine DR.stepV [_, _, _, _, _, _, _, _, _, _, _, _, _, _] rfl [(23, _, none), (216, _, some 7)] rfl rfl ⟨⟨rfl, by kernel_rfl⟩, ⟨rfl, rfl, rfl⟩, trivial⟩ (fun ext => TL.off hF rfl rfl rfl hc1 rfl TL.fin) ?_
              refine DR.stepV [_, _, _, _, _, _, _, _, _, _, _, _, _, _, _] rfl [(221, _, some 12), (222, _, some 13), (216, _, some 7)] rfl rfl ⟨⟨rfl, rfl, rfl⟩, ⟨rfl, rfl, rfl⟩, ⟨rfl, rfl, rfl⟩, trivial⟩ (fun ext => TL.off hF rfl rfl rfl hc1 rfl TL.fin) ?_
              refine DR.stepV [_, _, _, _, _, _, _, _, _, _, _, _, _, _, _, _] rfl [(223, _, some 14), (216, _, some 7)] rfl rfl ⟨⟨rfl, rfl, rfl⟩, ⟨rfl, rfl, rfl⟩, trivial⟩ (fun ext => TL.off hF rfl rfl rfl hc1 rfl TL.fin) ?_
              refine DR.stepV [_, _, _, _, _, _, _, _, _, _, _, _, _, _, _, _, _] rfl [(220, _, some 11), (224, _, some 15), (216, _, some 7)] rfl rfl ⟨⟨rfl, rfl, rfl⟩, ⟨rfl, rfl, rfl⟩, ⟨rfl, rfl, rfl⟩, trivial⟩ (fun ext => TL.off hF rfl rfl rfl hc1 rfl TL.fin) ?_
              refine DR.stepV [_, _, _, _, _, _, _, _, _, _, _, _, _, _, _, _, _, _] rfl [(216, _, some 7), (225, _, some 16)] rfl rfl ⟨⟨rfl, rfl, rfl⟩, ⟨rfl, rfl, rfl⟩, trivial⟩ (fun ext => TL.pickF hF rfl hc1 rfl rfl TL.fin) ?_
              refine DR.stepV [_, _, _, _, _, _, _, _, _, _, _, _, _, _, _, _, _, _, _] rfl [(226, _, some 17)] rfl rfl ⟨⟨rfl, rfl, rfl⟩, trivial⟩ (fun ext => TL.move hF rfl rfl TL.fin) ?_
              refine DR.stepV [_, _, _, _, _, _, _, _, _, _, _, _, _, _, _, _, _, _, _, _] rfl [(12, _, none), (227, _, some 18)] rfl rfl ⟨⟨rfl, by kernel_rfl⟩, ⟨rfl, rfl, rfl⟩, trivial⟩ (fun ext => TL.on rfl rfl rfl rfl <| TL.move hF rfl rfl TL.fin) ?_
              refine DR.stepV [_, _, _, _, _, _, _, _, _, _, _, _, _, _, _, _, _, _, _, _, _] rfl [(23, _, none), (227, _, some 18)] rfl rfl ⟨⟨rfl, by kernel_rfl⟩, ⟨rfl, rfl, rfl⟩, trivial⟩ (fun ext => TL.on rfl rfl rfl rfl <| TL.move hF rfl rfl TL.fin) ?_
              refine DR.stepV [_, _, _, _, _, _, _, _, _, _, _, _, _, _, _, _, _, _, _, _, _, _] rfl [(228, _, some 19), (229, _, some 20), (227, _, some 18)] rfl rfl ⟨⟨rfl, rfl, rfl⟩, ⟨rfl, rfl, rfl⟩, ⟨rfl, rfl, rfl⟩, trivial⟩ (fun ext => TL.on rfl rfl rfl rfl <| TL.indexAddr hF rfl rfl ((hnf a (by omega)).1) (by omega) (by omega) rfl TL.fin) ?_
              refine DR.stepV [_, _, _, _, _, _, _, _, _, _, _, _, _, _, _, _, _, _, _, _, _, _, _] rfl [(230, _, some 21), (227, _, some 18)] rfl rfl ⟨⟨rfl, rfl, rfl⟩, ⟨rfl, rfl, rfl⟩, trivial⟩ (fun ext => TL.on rfl rfl rfl rfl <| TL.load hF rfl (by rw [Int.toNat_natCast]; exact (hnf a (by omega)).2.1.up (by simp)) rfl TL.fin) ?_
              refine DR.stepV [_, _, _, _, _, _, _, _, _, _, _, _, _, _, _, _, _, _, _, _, _, _, _, _] rfl [(24, _, none), (227, _, some 18)] rfl rfl ⟨⟨rfl, by kernel_rfl⟩, ⟨rfl, rfl, rfl⟩, trivial⟩ (fun ext => TL.on rfl rfl rfl rfl <| TL.move hF rfl rfl TL.fin) ?_
              refine DR.stepV [_, _, _, _, _, _, _, _, _, _, _, _, _, _, _, _, _, _, _, _, _, _, _, _, _] rfl [(231, _, some 22), (232, _, some 23), (227, _, some 18)] rfl rfl ⟨⟨rfl, rfl, rfl⟩, ⟨rfl, rfl, rfl⟩, ⟨rfl, rfl, rfl⟩, trivial⟩ (fun ext => TL.on rfl rfl rfl rfl <| TL.indexAddr hF rfl rfl (hnA a (by omega)) (by omega) (by omega) rfl TL.fin) ?_
              refine DR.stepV [_, _, _, _, _, _, _, _, _, _, _, _, _, _, _, _, _, _, _, _, _, _, _, _, _, _] rfl [(233, _, some 24), (227, _, some 18)] rfl rfl ⟨⟨rfl, rfl, rfl⟩, ⟨rfl, rfl, rfl⟩, trivial⟩ (fun ext => TL.on rfl rfl rfl rfl <| TL.load hF rfl (by rw [Int.toNat_natCast]; exact (hnE a j (by omega) (by omega)).up (by simp)) rfl TL.fin) ?_
              refine DR.stepV [_, _, _, _, _, _, _, _, _, _, _, _, _, _, _, _, _, _, _, _, _, _, _, _, _, _, _] rfl [(234, _, some 25), (227, _, some 18)] rfl rfl ⟨⟨rfl, rfl, rfl⟩, ⟨rfl, rfl, rfl⟩, trivial⟩ (fun ext => TL.on rfl rfl rfl rfl <| TL.move hF rfl rfl TL.fin) ?_
              refine DR.stepV [_, _, _, _, _, _, _, _, _, _, _, _, _, _, _, _, _, _, _, _, _, _, _, _, _, _, _, _] rfl [(17, _, none), (235, _, some 26)] rfl rfl ⟨⟨rfl, by kernel_rfl⟩, ⟨rfl, rfl, rfl⟩, trivial⟩ (fun ext => TL.off hF rfl rfl rfl hc2 rfl TL.fin) ?_
              refine DR.stepV [_, _, _, _, _, _, _, _, _, _, _, _, _, _, _, _, _, _, _, _, _, _, _, _, _, _, _, _, _] rfl [(24, _, none), (235, _, some 26)] rfl rfl ⟨⟨rfl, by kernel_rfl⟩, ⟨rfl, rfl, rfl⟩, trivial⟩ (fun ext => TL.off hF rfl rfl rfl hc2 rfl TL.fin) ?_
              refine DR.stepV [_, _, _, _, _, _, _, _, _, _, _, _, _, _, _, _, _, _, _, _, _, _, _, _, _, _, _, _, _, _] rfl [(236, _, some 27), (237, _, some 28), (235, _, some 26)] rfl rfl ⟨⟨rfl, rfl, rfl⟩, ⟨rfl, rfl, rfl⟩, ⟨rfl, rfl, rfl⟩, trivial⟩ (fun ext => TL.off hF rfl rfl rfl hc2 rfl TL.fin) ?_
              refine DR.stepV [_, _, _, _, _, _, _, _, _, _, _, _, _, _, _, _, _, _, _, _, _, _, _, _, _, _, _, _, _, _, _] rfl [(238, _, some 29), (235, _, some 26)] rfl rfl ⟨⟨rfl, rfl, rfl⟩, ⟨rfl, rfl, rfl⟩, trivial⟩ (fun ext => TL.off hF rfl rfl rfl hc2 rfl TL.fin) ?_
              refine DR.stepV [_, _, _, _, _, _, _, _, _, _, _, _, _, _, _, _, _, _, _, _, _, _, _, _, _, _, _, _, _, _, _, _] rfl [(17, _, none), (235, _, some 26)] rfl rfl ⟨⟨rfl, by kernel_rfl⟩, ⟨rfl, rfl, rfl⟩, trivial⟩ (fun ext => TL.off hF rfl rfl rfl hc2 rfl TL.fin) ?_
              refine DR.stepV [_, _, _, _, _, _, _, _, _, _, _, _, _, _, _, _, _, _, _, _, _, _, _, _, _, _, _, _, _, _, _, _, _] rfl [(23, _, none), (235, _, some 26)] rfl rfl ⟨⟨rfl, by kernel_rfl⟩, ⟨rfl, rfl, rfl⟩, trivial⟩ (fun ext => TL.off hF rfl rfl rfl hc2 rfl TL.fin) ?_
              refine DR.stepV [_, _, _, _, _, _, _, _, _, _, _, _, _, _, _, _, _, _, _, _, _, _, _, _, _, _, _, _, _, _, _, _, _, _] rfl [(240, _, some 31), (241, _, some 32), (235, _, some 26)] rfl rfl ⟨⟨rfl, rfl, rfl⟩, ⟨rfl, rfl, rfl⟩, ⟨rfl, rfl, rfl⟩, trivial⟩ (fun ext => TL.off hF rfl rfl rfl hc2 rfl TL.fin) ?_
              refine DR.stepV [_, _, _, _, _, _, _, _, _, _, _, _, _, _, _, _, _, _, _, _, _, _, _, _, _, _, _, _, _, _, _, _, _, _, _] rfl [(242, _, some 33), (235, _, some 26)] rfl rfl ⟨⟨rfl, rfl, rfl⟩, ⟨rfl, rfl, rfl⟩, trivial⟩ (fun ext => TL.off hF rfl rfl rfl hc2 rfl TL.fin) ?_
              refine DR.done [(243, _), (242, _), (241, _), (240, _), (239, _), (238, _), (237, _), (236, _), (235, _), (234, _), (233, _), (232, _), (231, _), (230, _), (229, _), (228, _), (227, _), (226, _), (225, _), (224, _), (223, _), (222, _), (221, _), (220, _), (219, _), (218, _), (217, _), (216, _), (215, _), (214, _), (213, _), (212, _), (211, _), (210, _), (209, _)] [_, _, _] mixed (by kernel_rfl) (by kernel_rfl) (by kernel_rfl) rfl rfl ?_
              refine TL.off hF rfl rfl rfl hc2 rfl ?_
              refine TL.on rfl rfl rfl rfl ?_
              refine TL.pickF hF rfl hc2 rfl rfl ?_
              refine TL.pickF hF rfl rfl rfl rfl ?_
              refine TL.nil ?_
              refine TQ.then_n ?_
              refine T.cond_f rfl rfl ?_
              refine T.skip ?_
              refine TQ.block_n ?_
              refine TQ.then_n ?_
              refine T.region ?_
              refine TL.add hF rfl rfl (by omega) (by omega) rfl ?_
              refine TL.move hF rfl rfl ?_
              refine TL.nil ?_
              exact TQ.round (j + 1) (by omega) (by omega) ⟨rfl, rfl, rfl, rfl, rfl, rfl, rfl, rfl, rfl, rfl, rfl, trivial⟩ rfl
          · refine T.exit ?_
            refine TQ.then_x ?_
            refine TQ.then_x ?_
            refine TQ.block_x ?_
            refine TQ.block_n ?_
            refine TQ.then_n ?_
            refine T.region ?_
            refine TL.add hF rfl rfl (by omega) (by omega) rfl ?_
            refine TL.move hF rfl rfl ?_
            refine TL.nil ?_
            exact TQ.round (a + 1) (by omega) (by omega) ⟨rfl, rfl, rfl, rfl, rfl, rfl, rfl, rfl, trivial⟩ rfl
        · refine T.exit ?_
          refine TQ.then_x ?_
          refine TQ.then_x ?_
          refine TQ.block_x ?_
          refine TQ.then_n ?_
          refine T.seq ?_
          refine T.region ?_
          refine TL.move hF rfl rfl ?_
          refine TL.move hF rfl rfl ?_
          refine TL.bin hF rfl rfl rfl rfl ?_
          refine TL.move hF rfl rfl ?_
          refine TL.on rfl rfl rfl (decide_eq_true rfl) ?_
          refine TL.call hF awake_fn rfl rfl ?_
          rintro _ _ rfl
          refine TL.pickT hF rfl (decide_eq_true rfl) rfl rfl ?_
          refine TL.assign hF rfl rfl ?_
          refine TL.nil ?_
          refine TQ.then_n ?_
          refine T.ret ?_
          exact TQ.retsF [4] _ hb rfl rfl rfl (fun _ => rfl)
end Go.Proofs.Ytdehpaikapbckaa
namespace Go.Proofs.Ytdehpaikapbckaa
open Go.Sl Go.ChangeShapes Go.WideShapes Go.ChangeAt Go.RowKit 
set_option maxRecDepth 100000 in
theorem stratEither_lifted (os : Os) (started : os.Started) (H : Type) (enc : TypeId × Value → H) :
    ReturnsInHanded {} Try.checked os 4 .any (Rows.stratEitherSpec.pre6 enc Try.prog Try.f4 Rows.stratEitherRow.domain false) (Rows.stratEitherSpec.post enc Try.prog Try.f4 false true false false) := by
  refine returnsInHanded_of_change (C := Try.checked) Try.own started (by kernel_rfl) Try.func4
    (ChangeSpec.witness6 (enc := enc) (C := Try.checked) false ⟨#[], #[.int .u8 0, .slice none 0 0], []⟩ 8 (by kernel_rfl) (by kernel_rfl) (by kernel_rfl) (by kernel_rfl)) ?_
  intro W base args ds gs before hval hW hcnd _
  have hW' := hW
  obtain ⟨p, q, hA0, hV, rfl, hfz, hnd⟩ := hW
  have hA : DataW.TrodAll enc Try.prog W 0 (fun _ => true) true [5, 36] args.toList ds p := hA0
  have hval' : ∀ (j : Nat) t v, (#[5, 36] : Array TypeId)[j]? = some t → args[j]? = some v → Value.okWide Try.prog W .any base t v := hval
  obtain ⟨v0, v1, d0, d1, p0, p1, rfl, rfl, rfl, h0, h1⟩ := trodAll_two hA
  obtain ⟨z, rfl, _, _, wz⟩ := open_int u5 (hval' 0 5 v0 rfl rfl) h0
  obtain ⟨hz0, hz1⟩ := wf_u8 wz
  obtain ⟨m, rfl⟩ : ∃ m : Nat, z = (m : Int) := ⟨z.toNat, by omega⟩
  obtain ⟨_, _, _, rfl⟩ := okWide_slice u36 (hval' 1 36 v1 rfl rfl)
  obtain ⟨_, h1⟩ := h1
  obtain ⟨a1, xs, c1, e1, hc1, hl1, hx1, hb1⟩ := nats_read 65536 b16 u36 u96 k96 h1
  rw [e1] at hW' ⊢
  refine (calls_true (StratEither_fn (by omega) hx1 hc1 hb1 hl1)).mono fun e W' ⟨he, hw⟩ => ⟨_, he, ?_⟩
  exact law_post (f := Try.f4) Try.laidOut rfl 4 rfl u4 hW' rfl (by decide +kernel) hw
theorem stratEither_holds : Rows.StratEitherSaid :=
  OpenClaim.holds_of_wide 4 Try.f4 rfl rfl rfl rfl rfl rfl rfl ⟨rfl, rfl, rfl, rfl, rfl⟩ rfl rfl rfl rfl rfl (by kernel_rfl) Try.func4 (by kernel_rfl)
    (of_decide_eq_true (by kernel_rfl)) (by unfold Func.isWrapper; first | (rw [if_pos (by decide +kernel)]; kernel_rfl) | (rw [if_neg (by decide +kernel)]; exact ⟨rfl, rfl⟩))
    (fun os started H enc _ => stratEither_lifted os started H enc)
end Go.Proofs.Ytdehpaikapbckaa
