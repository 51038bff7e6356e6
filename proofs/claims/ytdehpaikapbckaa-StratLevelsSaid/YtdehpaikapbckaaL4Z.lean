/- Levels rise over denials, fall over no use, are the same in a block, and are the least: for every input. No condition. -/
import Derived.Test.YtdehpaikapbckaaPf
import Derived.Test.YtdehpaikapbckaaPb
import Derived.Test.YtdehpaikapbckaaPg
import Derived.Test.YtdehpaikapbckaaRows
/- The law of what changes reach. -/
namespace Go.Proofs.Ytdehpaikapbckaa
open Go.Sl
variable {S : Nat → Prop} {w0 : World} {η : Heap}
abbrev u8s (l : List Nat) : List Value := l.map fun (n : Nat) => .int .u8 (n : Int)
theorem u8_wrap {n : Nat} (h : n < 256) : IntKind.i64.wrap (n : Int) = (n : Int) := wrap_i64 (by omega) (by omega)
theorem changed_take {ys : List Nat} {R k : Nat} (hk : k < ys.length) : (ys.take (k + 1)).map (· % R) = (ys.take k).map (· % R) ++ [ys[k] % R] := by
  rw [List.take_succ_eq_append_getElem hk, List.map_append]; rfl
theorem users_succ {E : Nat → Nat → Bool} {x k : Nat} (h : E k x = true) : (List.range (k + 1)).filter (fun b => E b x) = ((List.range k).filter fun b => E b x) ++ [k] := by
  rw [List.range_succ, List.filter_append]; simp [h]
theorem users_skip {E : Nat → Nat → Bool} {x k : Nat} (h : ¬ E k x = true) : (List.range (k + 1)).filter (fun b => E b x) = (List.range k).filter fun b => E b x := by
  rw [List.range_succ, List.filter_append]; simp [h]
theorem users_len {E : Nat → Nat → Bool} {x k : Nat} : ((List.range k).filter fun b => E b x).length ≤ k := by
  have := List.length_filter_le (fun b => E b x) (List.range k); simpa using this
theorem Mat.frz {S' : Nat → Prop} {w1 : World} {ηr : Heap} {a : Option Addr} {n : Nat} {M : Nat → Nat → Bool} (h : Mat S w0 ηr a n M) (hz : Frz S S' w0 w1 ηr) : Mat S' w1 [] a n M := by
  obtain ⟨f, hf⟩ := h
  exact ⟨f, fun i hi => ⟨(hf i hi).1, hz.get _ _ (hf i hi).2.1, (hf i hi).2.2.frz hz⟩⟩
theorem Mat.old {S' : Nat → Prop} {w1 : World} {ηr : Heap} {a : Option Addr} {n : Nat} {M : Nat → Nat → Bool} (h : Mat S w0 [] a n M) (hz : Frz S S' w0 w1 ηr) : Mat S' w1 [] a n M := by
  obtain ⟨f, hf⟩ := h
  exact ⟨f, fun i hi => ⟨(hf i hi).1, hz.old (hf i hi).2.1, (hf i hi).2.2.old hz⟩⟩
theorem casts_mod (l : List Nat) : (casts l).map Int.toNat = l := by
  unfold casts; rw [List.map_map]; simp [Function.comp_def]
theorem filter_get {n k : Nat} {p : Nat → Bool} (hk : k < n) (hp : p k = true) : ((List.range n).filter p)[((List.range k).filter p).length]? = some k := by
  have h := filter_enc (n := n) (p := p) hk hp
  rw [List.getElem?_map] at h
  cases hg : ((List.range n).filter p)[((List.range k).filter p).length]? with
  | none => rw [hg] at h; cases h
  | some x => rw [hg] at h; simp at h; rw [show x = k by omega]

set_option maxHeartbeats 2000000 in
theorem StratReaches_fn {fa ga : Option Addr} {xs ys : List Nat} {m fc gc : Nat} (hm : m < 256) (hx : Row S w0 [] fa (u16s xs)) (hfc : xs.length ≤ fc) (hxs : ∀ n ∈ xs, n < 65536) (hl : xs.length < 2 ^ 63) (hy : Row S w0 [] ga (u8s ys)) (hys : ∀ n ∈ ys, n < 256) :
    Rt Try.prog 7 [.int .u8 (m : Int), .slice fa xs.length fc, .slice ga ys.length gc].toArray S w0 [] (fun v _ => v = .bool true) := by
  have hF := open_wide
  refine Rt.of (fn := Try.f7) Try.func7 rfl rfl ?_
  refine T.seq ?_
  refine T.region ?_
  refine TL.assign hF rfl rfl ?_
  refine TL.nil ?_
  refine TQ.then_n ?_
  refine T.seq ?_
  refine T.seq ?_
  refine T.region ?_
  have hb := Back.refl S w0
  refine TL.move hF rfl rfl ?_
  refine TL.len hF rfl rfl ?_
  refine TL.bin hF rfl rfl rfl rfl ?_
  refine TL.move hF rfl rfl ?_
  refine TL.gd (t := 26) rfl (fun g1_26 => ?_) (fun g1_26 => ?_)
  · refine TL.off hF rfl rfl rfl (decide_eq_true g1_26) rfl ?_
    refine TL.off hF rfl rfl rfl (decide_eq_true g1_26) rfl ?_
    refine TL.off hF rfl rfl rfl (decide_eq_true g1_26) rfl ?_
    refine TL.pickT hF rfl (decide_eq_true g1_26) rfl rfl ?_
    refine TL.nil ?_
    refine TQ.then_n ?_
    refine T.cond_t rfl rfl ?_
    refine T.seq ?_
    refine T.region ?_
    refine TL.call hF awake_fn rfl rfl ?_
    rintro _ _ rfl
    refine TL.assign hF rfl rfl ?_
    refine TL.nil ?_
    refine TQ.then_n ?_
    refine T.ret ?_
    refine TQ.then_r ?_
    exact TQ.retsF [6] _ hb rfl rfl rfl (fun _ => rfl)
  · refine TL.on rfl rfl rfl (decide_eq_false g1_26) ?_
    refine TL.move hF rfl rfl ?_
    refine TL.on rfl rfl rfl (decide_eq_false g1_26) ?_
    refine TL.len hF rfl rfl ?_
    refine TL.on rfl rfl rfl (decide_eq_false g1_26) ?_
    refine TL.bin hF rfl rfl rfl rfl ?_
    refine TL.pickF hF rfl (decide_eq_false g1_26) rfl rfl ?_
    refine TL.nil ?_
    refine TQ.then_n ?_
    first | refine T.cond_d rfl (fun ht30 => ?_) (fun ht30 => ?_) | refine T.cond _ rfl (fun ht30 => ?_) (fun ht30 => ?_)
    · refine T.seq ?_
      refine T.region ?_
      refine TL.call hF awake_fn rfl rfl ?_
      rintro _ _ rfl
      refine TL.assign hF rfl rfl ?_
      refine TL.nil ?_
      refine TQ.then_n ?_
      refine T.ret ?_
      refine TQ.then_r ?_
      exact TQ.retsF [6] _ hb rfl rfl rfl (fun _ => rfl)
    · refine T.skip ?_
      refine TQ.then_n ?_
      refine T.seq ?_
      refine T.region ?_
      refine TL.move hF rfl rfl ?_
      refine TL.convK hF rfl (u8_wrap hm) rfl ?_
      refine TL.remN (b := 12) hF rfl rfl (by decide) rfl ?_
      refine TL.add hF rfl rfl (by omega) (by omega) rfl ?_
      obtain ⟨R, hRe⟩ : ∃ R : Nat, R = 1 + m % 12 := ⟨_, rfl⟩
      have hR12 : 0 < R ∧ R ≤ 12 := by omega
      rw [show (1 : Int) + ((m % 12 : Nat) : Int) = (R : Int) by omega]
      have hl60 : xs.length ≤ 60 := by have h : ¬ (60 : Int) < (xs.length : Int) := g1_26; omega
      have hl5 : ys.length ≤ 5 := by have h : ¬ (5 : Int) < (ys.length : Int) := ht30; omega
      refine TL.assign hF rfl rfl ?_
      refine TL.nil ?_
      refine TQ.then_n ?_
      refine T.seq ?_
      refine T.region ?_
      refine TL.move hF rfl rfl ?_
      refine TL.move hF rfl rfl ?_
      refine TL.call hF (loose_fn hx hl60 hfc hxs hR12.1 (by omega)) rfl rfl ?_
      rintro _ _ ⟨pa, pc, s1, rs, rfl, rfl, hr, hkey⟩
      have hmo := made_ok hkey hR12.1 (by omega) hl60
      refine TL.freeze s1 rfl (fun S1 w1 hz1 => ?_)
      have hb := hb.frz hz1
      have hr := hr.frz hz1
      have hy := hy.old hz1
      refine TL.assign hF rfl rfl ?_
      refine TL.nil ?_
      refine TQ.then_n ?_
      refine T.seq ?_
      refine T.region ?_
      refine TL.move hF rfl rfl ?_
      refine TL.move hF rfl rfl ?_
      refine TL.call hF (direct_fn (R := R) hr (by have := hmo.len; omega) hmo.bl63 (by omega) hmo.rg) rfl rfl ?_
      rintro _ _ ⟨ta, tc, na, nc, s2, rfl, rfl, hT, hN⟩
      refine TL.freeze s2 rfl (fun S2 w2 hz2 => ?_)
      have hb := hb.frz hz2
      have hr := hr.old hz2
      have hy := hy.old hz2
      have hT := hT.frz hz2
      refine TL.move hF rfl rfl ?_
      refine TL.extract hF rfl rfl rfl ?_
      refine TL.extract hF rfl rfl rfl ?_
      refine TL.assign hF rfl rfl ?_
      refine TL.assign hF rfl rfl ?_
      refine TL.nil ?_
      refine TQ.then_n ?_
      refine T.seq ?_
      refine T.region ?_
      refine TL.assign hF rfl rfl ?_
      refine TL.nil ?_
      refine TQ.then_n ?_
      refine T.seq ?_
      refine T.seq ?_
      refine T.region ?_
      refine TL.move hF rfl rfl ?_
      refine TL.len hF rfl rfl ?_
      refine TL.move hF rfl rfl ?_
      refine TL.nil ?_
      refine TQ.then_n ?_
      refine T.block ?_
      refine T.hnil ?_
      refine T.loop (ι := Nat × Option Addr × Nat × Seg) (fun i => i.1 ≤ ys.length ∧ OSl 3 1 (.slice i.2.1 ((ys.take i.1).map (· % R)).length i.2.2.1) ((ys.take i.1).map (· % R)).length (nats ((ys.take i.1).map (· % R))) i.2.2.2) (fun i => [(0, .int .u8 (m : Int)), (7, .int .i64 (R : Int)), (8, .slice pa rs.length pc), (9, .slice ta R tc), (11, .slice i.2.1 ((ys.take i.1).map (· % R)).length i.2.2.1), (45, .slice ga ys.length gc), (46, .int .i64 (ys.length : Int)), (47, .int .i64 (i.1 : Int))]) (fun i => i.2.2.2 :: []) (fun i => ys.length - i.1) (0, none, 0, []) ⟨Nat.zero_le _, OSl.nil 3 1⟩ ⟨rfl, rfl, rfl, rfl, rfl, rfl, rfl, rfl, trivial⟩ rfl ?_
      rintro ⟨k, oa, oc, og⟩ ⟨hk, ho⟩
      simp only at hk ho
      refine T.seq ?_
      refine T.region ?_
      refine TL.bin hF rfl rfl rfl rfl ?_
      refine TL.nil ?_
      refine TQ.then_n ?_
      refine T.seq ?_
      first | refine T.cond_d rfl (fun ht48 => ?_) (fun ht48 => ?_) | refine T.cond _ rfl (fun ht48 => ?_) (fun ht48 => ?_)
      · refine T.skip ?_
        refine TQ.then_n ?_
        refine T.seq ?_
        refine T.block ?_
        refine T.seq ?_
        refine T.region ?_
        have hkl : k < ys.length := by have h : (k : Int) < ys.length := ht48; omega
        have hn8 : ys[k] < 256 := hys _ (List.getElem_mem _)
        refine TL.indexAddr hF rfl rfl (hy.ad (by simp; omega)) (by omega) (by omega) rfl ?_
        refine TL.load hF rfl (At.up (by rw [Nat.mul_one]; exact hy.cell k (.int .u8 (ys[k] : Int)) (by simp [hkl])) (by simp)) rfl ?_
        refine TL.assign hF rfl rfl ?_
        refine TL.nil ?_
        refine TQ.then_n ?_
        refine T.region ?_
        refine TL.move hF rfl rfl ?_
        refine TL.move hF rfl rfl ?_
        refine TL.convK hF rfl (u8_wrap hn8) rfl ?_
        refine TL.move hF rfl rfl ?_
        refine TL.remN hF rfl rfl hR12.1 rfl ?_
        refine TL.buildSlice hF rfl (cs := #[.int .i64 ((ys[k] % R : Nat) : Int)]) (e := 3) (fun w => by kernel_rfl) rfl (fun b56 => ?_)
        refine TL.append hF 1 rfl rfl rfl ho (row_own (cs := nats [ys[k] % R]) (e := 3) (by simp [nats])).src rfl rfl (by simp [nats, Value.oneCell']) (by simp; omega) (by simp; omega) rfl (fun a' cap' seg' ho' => ?_)
        refine TL.assign hF rfl rfl ?_
        refine TL.nil ?_
        refine TQ.block_n ?_
        refine TQ.then_n ?_
        refine T.region ?_
        refine TL.add hF rfl rfl (by omega) (by omega) rfl ?_
        refine TL.move hF rfl rfl ?_
        refine TL.nil ?_
        have e1 : ((ys.take (k + 1)).map (· % R)).length = ((ys.take k).map (· % R)).length + 1 := by rw [changed_take hkl]; simp
        refine TQ.pop ?_
        refine TQ.round (k + 1, a', cap', seg') ⟨by simp only; omega, ?_⟩ (by simp only; omega) ⟨rfl, rfl, rfl, rfl, congrArg (fun z => some (Value.slice a' z cap')) e1.symm, rfl, rfl, rfl, trivial⟩ rfl
        simp only
        rw [e1, changed_take hkl, nats, List.map_append]
        exact ho'
      · refine T.exit ?_
        refine TQ.then_x ?_
        refine TQ.then_x ?_
        refine TQ.block_x ?_
        refine TQ.then_n ?_
        refine T.seq ?_
        refine T.region ?_
        refine TL.move hF rfl rfl ?_
        refine TL.move hF rfl rfl ?_
        refine TL.move hF rfl rfl ?_
        have hkl : k = ys.length := by have h : ¬ (k : Int) < ys.length := ht48; omega
        subst hkl
        refine TL.freeze [og] rfl (fun S3 w3 hz3 => ?_)
        have hb := hb.frz hz3
        have hr := hr.old hz3
        have hT := hT.old hz3
        have hC := (ho.row (η := [og]) List.mem_cons_self).frz hz3
        rw [List.take_length] at hC
        have hCl : (ys.map (· % R)).length = ys.length := by simp
        have hCR : ∀ x ∈ (ys.map (· % R)), x < R := fun x hx => by obtain ⟨y, _, rfl⟩ := List.mem_map.1 hx; exact Nat.mod_lt _ hR12.1
        have hC2 : Row S3 w3 [] oa (ints (casts (ys.map (· % R)))) := by unfold casts; rw [← nats_ints]; exact hC
        have hrc : reachS R rs (casts (ys.map (· % R))) = ((List.range R).filter (hits (fwM (EU rs) R) (ys.map (· % R))), 0) := by
          unfold reachS
          rw [if_neg (by rw [hmo.ck]; simp), if_neg, Int.toNat_natCast, casts_mod]
          rw [Bool.not_eq_false]
          refine inAll_iff.2 fun x hx => ?_
          obtain ⟨y, hy2, rfl⟩ := List.mem_map.1 hx
          have := hCR y hy2
          simp [inR]; omega
        have hcl2 : ((ys.take ys.length).map (· % R)).length = (casts (ys.map (· % R))).length := by simp [casts]
        rw [hcl2]
        have hcall := Reach_prog (η := []) (c := pc) (fc := oc) R hr (by have := hmo.len; omega) hmo.bl63 hC2 (by simp [casts]; omega)
        rw [hrc] at hcall
        obtain ⟨ls, hls⟩ : ∃ ls, ls = (List.range R).filter (hits (fwM (EU rs) R) (ys.map (· % R))) := ⟨_, rfl⟩
        rw [← hls] at hcall
        refine TL.call hF hcall rfl rfl ?_
        rintro _ _ ⟨la, lc, s4, rfl, rfl, hL⟩
        refine TL.freeze s4 rfl (fun S4 w4 hz4 => ?_)
        have hb := hb.frz hz4
        have hT := hT.old hz4
        have hC := hC.old hz4
        have hL := hL.frz hz4
        have hcl3 : (casts (ys.map (· % R))).length = (ys.map (· % R)).length := by simp [casts]
        rw [hcl3]
        refine TL.move hF rfl rfl ?_
        refine TL.extract hF rfl rfl rfl ?_
        refine TL.extract hF rfl rfl rfl ?_
        refine TL.assign hF rfl rfl ?_
        refine TL.assign hF rfl rfl ?_
        refine TL.nil ?_
        refine TQ.then_n ?_
        refine T.seq ?_
        refine T.seq ?_
        refine T.region ?_
        refine TL.move hF rfl rfl ?_
        refine TL.bin hF rfl rfl rfl rfl ?_
        refine TL.nil ?_
        refine TQ.then_n ?_
        refine T.cond_f rfl rfl ?_
        refine T.skip ?_
        refine TQ.then_n ?_
        refine T.cut (ι := Nat × Option Addr × Nat × Seg) (fun i => OSx 3 1 (.slice i.2.1 (ys.map (· % R)).length i.2.2.1) (ys.map (· % R)).length (nats (ys.map (· % R))) i.2.2.2) (fun i => [(7, .int .i64 (R : Int)), (9, .slice ta R tc), (14, .slice la ls.length lc), (16, .slice (some ⟨i.1, 0, none⟩) R R), (17, .slice i.2.1 (ys.map (· % R)).length i.2.2.1)]) (fun i => [(i.1, .cells (rowC R fun _ => false).toArray 4 (0, 0))] :: i.2.2.2 :: []) ?_ ?_
        · refine T.drawH 5 mixed ?_
          refine DH.pure (i := 0) [(7, _, none)] rfl rfl rfl rfl ⟨⟨rfl, by kernel_rfl⟩, trivial⟩ (fun _ ext => TL.move hF rfl rfl TL.fin) ?_
          refine DH.pure (i := 3) [(11, _, none)] rfl rfl rfl rfl ⟨⟨rfl, by kernel_rfl⟩, trivial⟩ (fun _ ext => TL.move hF rfl rfl TL.fin) ?_
          refine DH.heavy2 (h1 := 1) (h2 := 2) (by kernel_rfl) (by kernel_rfl) (by kernel_rfl) (by kernel_rfl) ⟨_, _, [(68, _, some 0)], rfl, rfl, rfl, rfl, ⟨⟨rfl, rfl, rfl⟩, trivial⟩, by kernel_rfl, fun ext => ?_⟩ ⟨_, _, [], rfl, rfl, rfl, rfl, trivial, by kernel_rfl, fun ext => ?_⟩
          · refine TL.makeSlice hF (k := R) rfl rfl rfl (by omega) (by omega) rfl (fun b69 => ?_)
            refine TL.finD ?_
            refine DH.heavy 2 [] (by kernel_rfl) (by kernel_rfl) (by kernel_rfl) (by kernel_rfl) rfl rfl rfl rfl trivial (by kernel_rfl) (fun ext => ?_)
            refine TL.buildSlice hF rfl (cs := #[]) (e := 3) (fun w => by kernel_rfl) rfl (fun b70 => ?_)
            refine TL.finD ?_
            refine DH.heavy 4 [(70, _, some 2), (71, _, some 3)] (by kernel_rfl) (by kernel_rfl) (by kernel_rfl) (by kernel_rfl) rfl rfl rfl rfl ⟨⟨rfl, rfl, rfl⟩, ⟨rfl, rfl, rfl⟩, trivial⟩ (by kernel_rfl) (fun ext => ?_)
            have hon : OSl 3 1 (.slice (some ⟨b70, 0, none⟩) 0 0) 0 [] [(b70, .cells #[] 3 (0, 0))] := ⟨rfl, .inr ⟨b70, 0, _, rfl, rfl, Nat.le_refl _, rfl, rfl⟩⟩
            first | refine TL.append hF 0 rfl rfl rfl hon hC.ro.src rfl (by simp [nats]) (nats1 _) (by simp; omega) (by simp; omega) rfl (fun a' cap' seg' ho' => ?_) | refine TL.append hF 1 rfl rfl rfl hon hC.ro.src rfl (by simp [nats]) (nats1 _) (by simp [casts]; omega) (by simp [casts]; omega) rfl (fun a' cap' seg' ho' => ?_)
            refine TL.finD ?_
            refine DH.done [(72, _), (70, _), (69, _), (71, _), (68, _)] [_, _] (by kernel_rfl) (by kernel_rfl) (by kernel_rfl) (by kernel_rfl) rfl rfl ?_
            refine TL.assign hF rfl rfl ?_
            refine TL.assign hF rfl rfl ?_
            refine TL.nil ?_
            rw [List.nil_append] at ho'
            rw [Nat.zero_add] at ho'
            first
              | refine TQ.pick [0, 1] [_, _] rfl rfl (η' := [(b69, .cells (List.replicate R (.bool false)).toArray 4 (0, 0))] :: seg' :: []) rfl ?_
              | refine TQ.pick [1, 0] [_, _] rfl rfl (η' := [(b69, .cells (List.replicate R (.bool false)).toArray 4 (0, 0))] :: seg' :: []) rfl ?_
            rw [rowC_false]
            refine TQ.cut (b69, a', cap', seg') ?_ ⟨rfl, rfl, rfl, rfl, by rw [Nat.zero_add]; rfl, trivial⟩ rfl
            exact OSl.x ho'
          · refine TL.buildSlice hF rfl (cs := #[]) (e := 3) (fun w => by kernel_rfl) rfl (fun b70 => ?_)
            refine TL.finD ?_
            refine DH.heavy2 (h1 := 1) (h2 := 4) (by kernel_rfl) (by kernel_rfl) (by kernel_rfl) (by kernel_rfl) ⟨_, _, [(68, _, some 0)], rfl, rfl, rfl, rfl, ⟨⟨rfl, rfl, rfl⟩, trivial⟩, by kernel_rfl, fun ext => ?_⟩ ⟨_, _, [(70, _, some 2), (71, _, some 3)], rfl, rfl, rfl, rfl, ⟨⟨rfl, rfl, rfl⟩, ⟨rfl, rfl, rfl⟩, trivial⟩, by kernel_rfl, fun ext => ?_⟩
            · refine TL.makeSlice hF (k := R) rfl rfl rfl (by omega) (by omega) rfl (fun b69 => ?_)
              refine TL.finD ?_
              refine DH.heavy 4 [(70, _, some 2), (71, _, some 3)] (by kernel_rfl) (by kernel_rfl) (by kernel_rfl) (by kernel_rfl) rfl rfl rfl rfl ⟨⟨rfl, rfl, rfl⟩, ⟨rfl, rfl, rfl⟩, trivial⟩ (by kernel_rfl) (fun ext => ?_)
              have hon : OSl 3 1 (.slice (some ⟨b70, 0, none⟩) 0 0) 0 [] [(b70, .cells #[] 3 (0, 0))] := ⟨rfl, .inr ⟨b70, 0, _, rfl, rfl, Nat.le_refl _, rfl, rfl⟩⟩
              first | refine TL.append hF 0 rfl rfl rfl hon hC.ro.src rfl (by simp [nats]) (nats1 _) (by simp; omega) (by simp [casts]; omega) rfl (fun a' cap' seg' ho' => ?_) | refine TL.append hF 1 rfl rfl rfl hon hC.ro.src rfl (by simp [nats]) (nats1 _) (by simp; omega) (by simp; omega) rfl (fun a' cap' seg' ho' => ?_)
              refine TL.finD ?_
              refine DH.done [(72, _), (69, _), (70, _), (71, _), (68, _)] [_, _] (by kernel_rfl) (by kernel_rfl) (by kernel_rfl) (by kernel_rfl) rfl rfl ?_
              refine TL.assign hF rfl rfl ?_
              refine TL.assign hF rfl rfl ?_
              refine TL.nil ?_
              rw [List.nil_append] at ho'
              rw [Nat.zero_add] at ho'
              first
                | refine TQ.pick [0, 1] [_, _] rfl rfl (η' := [(b69, .cells (List.replicate R (.bool false)).toArray 4 (0, 0))] :: seg' :: []) rfl ?_
                | refine TQ.pick [1, 0] [_, _] rfl rfl (η' := [(b69, .cells (List.replicate R (.bool false)).toArray 4 (0, 0))] :: seg' :: []) rfl ?_
              rw [rowC_false]
              refine TQ.cut (b69, a', cap', seg') ?_ ⟨rfl, rfl, rfl, rfl, by rw [Nat.zero_add]; rfl, trivial⟩ rfl
              exact OSl.x ho'
            · have hon : OSl 3 1 (.slice (some ⟨b70, 0, none⟩) 0 0) 0 [] [(b70, .cells #[] 3 (0, 0))] := ⟨rfl, .inr ⟨b70, 0, _, rfl, rfl, Nat.le_refl _, rfl, rfl⟩⟩
              first | refine TL.append hF 0 rfl rfl rfl hon hC.ro.src rfl (by simp [nats]) (nats1 _) (by simp; omega) (by simp; omega) rfl (fun a' cap' seg' ho' => ?_) | refine TL.append hF 1 rfl rfl rfl hon hC.ro.src rfl (by simp [nats]) (nats1 _) (by simp [casts]; omega) (by simp [casts]; omega) rfl (fun a' cap' seg' ho' => ?_)
              refine TL.finD ?_
              refine DH.heavy 1 [(68, _, some 0)] (by kernel_rfl) (by kernel_rfl) (by kernel_rfl) (by kernel_rfl) rfl rfl rfl rfl ⟨⟨rfl, rfl, rfl⟩, trivial⟩ (by kernel_rfl) (fun ext => ?_)
              refine TL.makeSlice hF (k := R) rfl rfl rfl (by omega) (by omega) rfl (fun b69 => ?_)
              refine TL.finD ?_
              refine DH.done [(69, _), (72, _), (70, _), (71, _), (68, _)] [_, _] (by kernel_rfl) (by kernel_rfl) (by kernel_rfl) (by kernel_rfl) rfl rfl ?_
              refine TL.assign hF rfl rfl ?_
              refine TL.assign hF rfl rfl ?_
              refine TL.nil ?_
              rw [List.nil_append] at ho'
              rw [Nat.zero_add] at ho'
              first
                | refine TQ.pick [0, 1] [_, _] rfl rfl (η' := [(b69, .cells (List.replicate R (.bool false)).toArray 4 (0, 0))] :: seg' :: []) rfl ?_
                | refine TQ.pick [1, 0] [_, _] rfl rfl (η' := [(b69, .cells (List.replicate R (.bool false)).toArray 4 (0, 0))] :: seg' :: []) rfl ?_
              rw [rowC_false]
              refine TQ.cut (b69, a', cap', seg') ?_ ⟨rfl, rfl, rfl, rfl, by rw [Nat.zero_add]; rfl, trivial⟩ rfl
              exact OSl.x ho'
        · rintro ⟨b69, qa0, qc0, qg0⟩ hq0
          simp only at hq0
          refine T.seq ?_
          refine T.block ?_
          refine T.loop (ι := (Nat → Bool) × List Nat × Option Addr × Nat × Seg) (fun i => RSeek (EU rs) R (ys.map (· % R)) i.1 i.2.1 ∧ i.2.1.length + (R + 1) * unm R i.1 ≤ 1000 ∧ OSx 3 1 (.slice i.2.2.1 i.2.1.length i.2.2.2.1) i.2.1.length (nats i.2.1) i.2.2.2.2) (fun i => [(7, .int .i64 (R : Int)), (9, .slice ta R tc), (14, .slice la ls.length lc), (16, .slice (some ⟨b69, 0, none⟩) R R), (17, .slice i.2.2.1 i.2.1.length i.2.2.2.1)]) (fun i => [(b69, .cells (rowC R i.1).toArray 4 (0, 0))] :: i.2.2.2.2 :: []) (fun i => i.2.1.length + (R + 1) * unm R i.1) ((fun _ => false), (ys.map (· % R)), qa0, qc0, qg0) ⟨RSeek.start hCR, ?_, hq0⟩ ⟨rfl, rfl, rfl, rfl, rfl, trivial⟩ rfl ?_
          · have h1 : (R + 1) * unm R (fun _ => false) ≤ 13 * 12 := Nat.mul_le_mul (by omega) (by rw [unm_all]; omega)
            simp only [hCl]; omega
          rintro ⟨A, q, qa, qc, qg⟩ ⟨hsk, hmu, ho⟩
          simp only at hsk hmu ho
          refine T.seq ?_
          refine T.seq ?_
          refine T.region ?_
          refine TL.move hF rfl rfl ?_
          refine TL.len hF rfl rfl ?_
          refine TL.bin hF rfl rfl rfl rfl ?_
          refine TL.nil ?_
          refine TQ.then_n ?_
          first | refine T.cond_d rfl (fun ht75 => ?_) (fun ht75 => ?_) | refine T.cond _ rfl (fun ht75 => ?_) (fun ht75 => ?_)
          · refine T.skip ?_
            refine TQ.then_n ?_
            refine T.block ?_
            refine T.seq ?_
            refine T.region ?_
            refine TL.move hF rfl rfl ?_
            obtain ⟨x, q1, rfl⟩ : ∃ x q1, q = x :: q1 := by
              cases q with
              | nil => simp at ht75
              | cons x q1 => exact ⟨x, q1, rfl⟩
            have hxR := hsk.qlt x List.mem_cons_self
            have hrow : Row S4 w4 ([(b69, .cells (rowC R A).toArray 4 (0, 0))] :: qg :: []) qa (nats (x :: q1)) := ho.row (by simp)
            refine TL.indexAddr hF rfl rfl (hrow.nad (i := 0) (by simp)) (by omega) (by simp) rfl ?_
            refine TL.load hF rfl (v := .int .i64 (x : Int)) (hrow.nat (i := 0) (by simp)) rfl ?_
            refine TL.assign hF rfl rfl ?_
            refine TL.nil ?_
            refine TQ.then_n ?_
            refine T.seq ?_
            refine T.region ?_
            refine TL.move hF rfl rfl ?_
            refine TL.slice hF (i := 1) (j := (x :: q1).length) rfl rfl rfl (by simp) (by have h2 := ho.2; rcases h2 with ⟨h2, _⟩ | ⟨_, _, _, _, h2, _, h3, _⟩ <;> first | (cases h2; exact h3) | cases h2) rfl ?_
            refine TL.assign hF rfl rfl ?_
            refine TL.nil ?_
            refine TQ.then_n ?_
            refine T.seq ?_
            refine T.seq ?_
            refine T.region ?_
            refine TL.move hF rfl rfl ?_
            refine TL.move hF rfl rfl ?_
            refine TL.indexAddr hF rfl rfl ⟨_, rfl, rfl⟩ (by omega) (by omega) rfl ?_
            refine TL.load hF rfl (by rw [Int.toNat_natCast, Nat.mul_one]; exact (row_own (e := 4) List.mem_cons_self).cell x (.bool (A x)) (rowC_get hxR)) rfl ?_
            refine TL.nil ?_
            refine TQ.then_n ?_
            have hc := ho.cut (k := 1) (by simp)
            have e1 : (x :: q1).length - 1 = q1.length := by simp
            rw [e1] at hc
            refine T.cond _ rfl (fun ht84 => ?_) (fun ht84 => ?_)
            · refine T.exit ?_
              refine TQ.then_x ?_
              refine TQ.block_x ?_
              refine TQ.round (A, q1, _, _, qg) ⟨hsk.skip ht84, by simp only [List.length_cons] at hmu; simp only; omega, hc⟩ (by simp only [List.length_cons]; omega) ⟨rfl, rfl, rfl, rfl, congrArg (fun z => some (Value.slice _ z _)) e1, trivial⟩ rfl
            · refine T.skip ?_
              refine TQ.then_n ?_
              refine T.seq ?_
              refine T.region ?_
              refine TL.move hF rfl rfl ?_
              refine TL.move hF rfl rfl ?_
              refine TL.indexAddr hF rfl rfl ⟨_, rfl, rfl⟩ (by omega) (by omega) rfl ?_
              refine TL.storeI hF 0 rfl rfl rfl rfl (by simp [rowC_len]; omega) ?_
              refine TL.nil ?_
              refine TQ.then_n ?_
              refine T.seq ?_
              refine T.region ?_
              refine TL.move hF rfl rfl ?_
              refine TL.len hF rfl rfl ?_
              refine TL.move hF rfl rfl ?_
              refine TL.nil ?_
              refine TQ.then_n ?_
              refine T.block ?_
              refine T.loop (ι := Nat × Option Addr × Nat × Seg) (fun i => i.1 ≤ R ∧ OSx 3 1 (.slice i.2.1 (q1 ++ (List.range i.1).filter fun b => EU rs b x).length i.2.2.1) (q1 ++ (List.range i.1).filter fun b => EU rs b x).length (nats (q1 ++ (List.range i.1).filter fun b => EU rs b x)) i.2.2.2) (fun i => [(7, .int .i64 (R : Int)), (9, .slice ta R tc), (14, .slice la ls.length lc), (16, .slice (some ⟨b69, 0, none⟩) R R), (18, .int .i64 (x : Int)), (17, .slice i.2.1 (q1 ++ (List.range i.1).filter fun b => EU rs b x).length i.2.2.1), (89, .int .i64 (R : Int)), (90, .int .i64 (i.1 : Int))]) (fun i => [(b69, .cells (rowC R (markA A x)).toArray 4 (0, 0))] :: i.2.2.2 :: []) (fun i => R - i.1) (0, _, _, qg) ⟨Nat.zero_le _, by simp only [List.range_zero, List.filter_nil, List.append_nil]; exact hc⟩ ⟨rfl, rfl, rfl, rfl, rfl, congrArg (fun z => some (Value.slice _ z _)) (by simp), rfl, rfl, trivial⟩ ?_ ?_
              · show [(b69, Obj.cells ((rowC R A).toArray.setIfInBounds (0 + (x : Int).toNat * 1) (.bool true)) 4 (0, 0))] :: qg :: [] = _
                rw [rowC_set (g := markA A x) (fun i hi => by simp [markA])]
              rintro ⟨j, va, vc, vg⟩ ⟨hj, hvo⟩
              simp only at hj hvo
              have hvl : (q1 ++ (List.range j).filter fun b => EU rs b x).length ≤ q1.length + j := by have := users_len (E := EU rs) (x := x) (k := j); simp only [List.length_append]; omega
              simp only [List.length_cons] at hmu
              refine T.seq ?_
              refine T.region ?_
              refine TL.bin hF rfl rfl rfl rfl ?_
              refine TL.nil ?_
              refine TQ.then_n ?_
              refine T.seq ?_
              first | refine T.cond_d rfl (fun ht91 => ?_) (fun ht91 => ?_) | refine T.cond _ rfl (fun ht91 => ?_) (fun ht91 => ?_)
              · refine T.skip ?_
                refine TQ.then_n ?_
                refine T.seq ?_
                refine T.block ?_
                refine T.seq ?_
                refine T.region ?_
                refine TL.move hF rfl rfl ?_
                refine TL.assign hF rfl rfl ?_
                refine TL.nil ?_
                refine TQ.then_n ?_
                refine T.seq ?_
                refine T.region ?_
                refine TL.move hF rfl rfl ?_
                refine TL.move hF rfl rfl ?_
                have hjR : j < R := by have h : (j : Int) < R := ht91; omega
                obtain ⟨tf, htf⟩ := hT
                obtain ⟨htad, htv, htr⟩ := htf j hjR
                refine TL.indexAddr hF rfl rfl htad (by omega) (by omega) rfl ?_
                refine TL.load hF rfl (htv.up (by simp)) rfl ?_
                refine TL.move hF rfl rfl ?_
                refine TL.indexAddr hF rfl rfl (htr.ad (by simp [rowC_len]; omega)) (by omega) (by omega) rfl ?_
                refine TL.load hF rfl (by rw [Int.toNat_natCast, Nat.mul_one]; exact (htr.cell x _ (rowC_get hxR)).up (by simp)) rfl ?_
                refine TL.nil ?_
                refine TQ.then_n ?_
                refine T.cond _ rfl (fun ht99 => ?_) (fun ht99 => ?_)
                · refine T.region ?_
                  refine TL.move hF rfl rfl ?_
                  refine TL.move hF rfl rfl ?_
                  refine TL.buildSlice hF rfl (cs := #[.int .i64 (j : Int)]) (e := 3) (fun w => by kernel_rfl) rfl (fun b102 => ?_)
                  refine TL.appendX hF 2 rfl rfl rfl hvo (row_own (cs := nats [j]) (e := 3) (by simp [nats])).src rfl rfl (by simp [nats, Value.oneCell']) (by omega) (by omega) rfl (fun a' cap' seg' ho' => ?_)
                  refine TL.assign hF rfl rfl ?_
                  refine TL.nil ?_
                  refine TQ.block_n ?_
                  refine TQ.then_n ?_
                  refine T.region ?_
                  refine TL.add hF rfl rfl (by omega) (by omega) rfl ?_
                  refine TL.move hF rfl rfl ?_
                  refine TL.nil ?_
                  have e2 : (q1 ++ (List.range (j + 1)).filter fun b => EU rs b x) = (q1 ++ (List.range j).filter fun b => EU rs b x) ++ [j] := by rw [users_succ ht99, List.append_assoc]
                  have e3 : (q1 ++ (List.range (j + 1)).filter fun b => EU rs b x).length = (q1 ++ (List.range j).filter fun b => EU rs b x).length + 1 := by rw [e2, List.length_append]; rfl
                  refine TQ.pop ?_
                  refine TQ.round (j + 1, a', cap', seg') ⟨by simp only; omega, ?_⟩ (by simp only; omega) ⟨rfl, rfl, rfl, rfl, rfl, congrArg (fun z => some (Value.slice a' z cap')) e3.symm, rfl, rfl, trivial⟩ rfl
                  simp only
                  rw [e3, e2, nats, List.map_append]
                  exact ho'
                · refine T.skip ?_
                  refine TQ.block_n ?_
                  refine TQ.then_n ?_
                  refine T.region ?_
                  refine TL.add hF rfl rfl (by omega) (by omega) rfl ?_
                  refine TL.move hF rfl rfl ?_
                  refine TL.nil ?_
                  have e2 : (q1 ++ (List.range (j + 1)).filter fun b => EU rs b x) = (q1 ++ (List.range j).filter fun b => EU rs b x) := by rw [users_skip (by simp [ht99])]
                  exact TQ.round (j + 1, va, vc, vg) ⟨by simp only; omega, by simp only; rw [e2]; exact hvo⟩ (by simp only; omega) ⟨rfl, rfl, rfl, rfl, rfl, congrArg (fun z : List Nat => some (Value.slice va z.length vc)) e2.symm, rfl, rfl, trivial⟩ rfl
              · refine T.exit ?_
                refine TQ.then_x ?_
                refine TQ.then_x ?_
                refine TQ.block_x ?_
                refine TQ.block_n ?_
                have hun := unm_mark hxR ht84
                have hju : j = R := by have h : ¬ (j : Int) < R := ht91; omega
                subst hju
                have hms : (j + 1) * unm j (markA A x) + (j + 1) ≤ (j + 1) * unm j A := by rw [← Nat.mul_succ]; exact Nat.mul_le_mul_left _ hun
                have hul := users_len (E := EU rs) (x := x) (k := j)
                refine TQ.round (markA A x, q1 ++ usersS (EU rs) j x, va, vc, vg) ⟨hsk.mark hCR, ?_, hvo⟩ ?_ ⟨rfl, rfl, rfl, rfl, rfl, trivial⟩ rfl
                · simp only [List.length_append]; unfold usersS; omega
                · simp only [List.length_append, List.length_cons]; unfold usersS; omega
          · refine T.exit ?_
            refine TQ.then_x ?_
            refine TQ.then_x ?_
            refine TQ.block_x ?_
            refine TQ.then_n ?_
            refine T.seq ?_
            refine T.region ?_
            refine TL.assign hF rfl rfl ?_
            refine TL.nil ?_
            refine TQ.then_n ?_
            refine T.seq ?_
            refine T.seq ?_
            refine T.region ?_
            refine TL.move hF rfl rfl ?_
            refine TL.len hF rfl rfl ?_
            refine TL.move hF rfl rfl ?_
            refine TL.nil ?_
            refine TQ.then_n ?_
            refine T.block ?_
            have hq0 : q = [] := by
              cases q with
              | nil => rfl
              | cons x q1 => exfalso; simp at ht75
            subst hq0
            have hfin := hsk.fin hCR
            have hcn : ∀ n, n ≤ R → (List.range n).filter A = (List.range n).filter (hits (fwM (EU rs) R) (ys.map (· % R))) := fun n hn => List.filter_congr fun x hx => hfin x (by have := List.mem_range.1 hx; omega)
            refine T.loop (ι := Nat) (fun k => k ≤ R) (fun k => [(7, .int .i64 (R : Int)), (9, .slice ta R tc), (14, .slice la ls.length lc), (16, .slice (some ⟨b69, 0, none⟩) R R), (20, .int .i64 (((List.range k).filter (hits (fwM (EU rs) R) (ys.map (· % R)))).length : Int)), (105, .slice (some ⟨b69, 0, none⟩) R R), (106, .int .i64 (R : Int)), (107, .int .i64 (k : Int))]) (fun _ => [(b69, .cells (rowC R A).toArray 4 (0, 0))] :: qg :: []) (fun k => R - k) 0 (Nat.zero_le _) ⟨rfl, rfl, rfl, rfl, rfl, rfl, rfl, rfl, trivial⟩ rfl ?_
            rintro v hv
            have hvl : ((List.range v).filter (hits (fwM (EU rs) R) (ys.map (· % R)))).length ≤ v := by have := List.length_filter_le (hits (fwM (EU rs) R) (ys.map (· % R))) (List.range v); simpa using this
            refine T.seq ?_
            refine T.region ?_
            refine TL.bin hF rfl rfl rfl rfl ?_
            refine TL.nil ?_
            refine TQ.then_n ?_
            refine T.seq ?_
            first | refine T.cond_d rfl (fun ht108 => ?_) (fun ht108 => ?_) | refine T.cond _ rfl (fun ht108 => ?_) (fun ht108 => ?_)
            · refine T.skip ?_
              refine TQ.then_n ?_
              refine T.seq ?_
              refine T.block ?_
              refine T.seq ?_
              refine T.region ?_
              refine TL.move hF rfl rfl ?_
              have hvR : v < R := by have h : (v : Int) < R := ht108; omega
              refine TL.indexAddr hF rfl rfl ⟨_, rfl, rfl⟩ (by omega) (by omega) rfl ?_
              refine TL.load hF rfl (by rw [Int.toNat_natCast, Nat.mul_one]; exact (row_own (e := 4) List.mem_cons_self).cell v (.bool (A v)) (rowC_get hvR)) rfl ?_
              refine TL.assign hF rfl rfl ?_
              refine TL.assign hF rfl rfl ?_
              refine TL.nil ?_
              refine TQ.then_n ?_
              refine T.seq ?_
              refine T.seq ?_
              refine T.region ?_
              refine TL.move hF rfl rfl ?_
              refine TL.move hF rfl rfl ?_
              refine TL.gb (t := 113) rfl (fun g31_113 => ?_) (fun g31_113 => ?_)
              · refine TL.on rfl rfl rfl g31_113 ?_
                have hht : (hits (fwM (EU rs) R) (ys.map (· % R))) v = true := by rw [← hfin v hvR]; exact g31_113
                have hget : ls[((List.range v).filter (hits (fwM (EU rs) R) (ys.map (· % R)))).length]? = some v := by rw [hls]; exact filter_get hvR hht
                have hcnt := (List.getElem?_eq_some_iff.1 hget).1
                refine TL.move hF rfl rfl ?_
                refine TL.on rfl rfl rfl g31_113 ?_
                refine TL.move hF rfl rfl ?_
                refine TL.on rfl rfl rfl g31_113 ?_
                refine TL.len hF rfl rfl ?_
                refine TL.on rfl rfl rfl g31_113 ?_
                refine TL.bin hF rfl rfl rfl rfl ?_
                refine TL.on rfl rfl rfl g31_113 ?_
                refine TL.move hF rfl rfl ?_
                refine TL.on rfl rfl rfl (decide_eq_false (by omega)) ?_
                refine TL.move hF rfl rfl ?_
                refine TL.on rfl rfl rfl (decide_eq_false (by omega)) ?_
                refine TL.move hF rfl rfl ?_
                refine TL.on rfl rfl rfl (decide_eq_false (by omega)) ?_
                refine TL.indexAddr hF rfl rfl (hL.nad hcnt) (by omega) (by omega) rfl ?_
                refine TL.on rfl rfl rfl (decide_eq_false (by omega)) ?_
                refine TL.load hF rfl (v := .int .i64 (v : Int)) (by rw [Int.toNat_natCast, Nat.mul_one]; exact hL.ro.cell _ _ (by simp [nats, hget])) rfl ?_
                refine TL.on rfl rfl rfl (decide_eq_false (by omega)) ?_
                refine TL.move hF rfl rfl ?_
                refine TL.on rfl rfl rfl (decide_eq_false (by omega)) ?_
                refine TL.bin hF rfl rfl rfl rfl ?_
                refine TL.on rfl rfl rfl g31_113 ?_
                refine TL.pickF hF rfl (decide_eq_false (by omega)) rfl rfl ?_
                refine TL.pickT hF rfl g31_113 rfl rfl ?_
                refine TL.nil ?_
                refine TQ.then_n ?_
                refine T.cond_f rfl (by simp) ?_
                refine T.skip ?_
                refine TQ.then_n ?_
                refine T.seq ?_
                refine T.region ?_
                refine TL.move hF rfl rfl ?_
                refine TL.nil ?_
                refine TQ.then_n ?_
                refine T.cond_t rfl g31_113 ?_
                refine T.region ?_
                refine TL.move hF rfl rfl ?_
                refine TL.add hF rfl rfl (by omega) (by omega) rfl ?_
                refine TL.assign hF rfl rfl ?_
                refine TL.nil ?_
                refine TQ.block_n ?_
                refine TQ.then_n ?_
                refine T.region ?_
                refine TL.add hF rfl rfl (by omega) (by omega) rfl ?_
                refine TL.move hF rfl rfl ?_
                refine TL.nil ?_
                have e5 : ((List.range (v + 1)).filter (hits (fwM (EU rs) R) (ys.map (· % R)))).length = ((List.range v).filter (hits (fwM (EU rs) R) (ys.map (· % R)))).length + 1 := by rw [filter_succ, if_pos hht]
                exact TQ.round (v + 1) (by omega) (by omega) ⟨rfl, rfl, rfl, rfl, by rw [e5]; rfl, rfl, rfl, rfl, trivial⟩ rfl
              · refine TL.off hF rfl rfl rfl g31_113 rfl ?_
                refine TL.off hF rfl rfl rfl g31_113 rfl ?_
                refine TL.off hF rfl rfl rfl g31_113 rfl ?_
                refine TL.off hF rfl rfl rfl g31_113 rfl ?_
                refine TL.off hF rfl rfl rfl g31_113 rfl ?_
                refine TL.offU hF rfl rfl rfl rfl ?_
                refine TL.offU hF rfl rfl rfl rfl ?_
                refine TL.offU hF rfl rfl rfl rfl ?_
                refine TL.offU hF rfl rfl rfl rfl ?_
                refine TL.offU hF rfl rfl rfl rfl ?_
                refine TL.offU hF rfl rfl rfl rfl ?_
                refine TL.off hF rfl rfl rfl g31_113 rfl ?_
                refine TL.pickF hF rfl g31_113 rfl rfl ?_
                refine TL.nil ?_
                refine TQ.then_n ?_
                refine T.cond_f rfl rfl ?_
                refine T.skip ?_
                refine TQ.then_n ?_
                refine T.seq ?_
                refine T.region ?_
                refine TL.move hF rfl rfl ?_
                refine TL.nil ?_
                refine TQ.then_n ?_
                refine T.cond_f rfl g31_113 ?_
                refine T.skip ?_
                refine TQ.block_n ?_
                refine TQ.then_n ?_
                refine T.region ?_
                refine TL.add hF rfl rfl (by omega) (by omega) rfl ?_
                refine TL.move hF rfl rfl ?_
                refine TL.nil ?_
                have e5 : ((List.range (v + 1)).filter (hits (fwM (EU rs) R) (ys.map (· % R)))).length = ((List.range v).filter (hits (fwM (EU rs) R) (ys.map (· % R)))).length := by rw [filter_succ, if_neg (by rw [← hfin v hvR, g31_113]; simp)]; rfl
                exact TQ.round (v + 1) (by omega) (by omega) ⟨rfl, rfl, rfl, rfl, by rw [e5]; rfl, rfl, rfl, rfl, trivial⟩ rfl
            · refine T.exit ?_
              refine TQ.then_x ?_
              refine TQ.then_x ?_
              refine TQ.block_x ?_
              refine TQ.then_n ?_
              refine T.seq ?_
              refine T.region ?_
              refine TL.move hF rfl rfl ?_
              refine TL.move hF rfl rfl ?_
              refine TL.len hF rfl rfl ?_
              refine TL.bin hF rfl rfl rfl rfl ?_
              refine TL.move hF rfl rfl ?_
              refine TL.on rfl rfl rfl (decide_eq_true (by have h : ¬ (v : Int) < R := ht108; rw [hls, show v = R by omega])) ?_
              refine TL.call hF awake_fn rfl rfl ?_
              rintro _ _ rfl
              refine TL.pickT hF rfl (decide_eq_true (by have h : ¬ (v : Int) < R := ht108; rw [hls, show v = R by omega])) rfl rfl ?_
              refine TL.assign hF rfl rfl ?_
              refine TL.nil ?_
              refine TQ.then_n ?_
              refine T.ret ?_
              exact TQ.retsF [6] _ hb rfl rfl rfl (fun _ => rfl)
end Go.Proofs.Ytdehpaikapbckaa
/- What the law asks of levels: plain Lean. -/
namespace Go.Proofs.Ytdehpaikapbckaa
open Go.Sl
theorem orderS_lt {n : Nat} {M : Nat → Nat → Bool} : ∀ (f : Nat) (done : List Nat), ∀ l ∈ orderS n M f done, ∃ a, a < n ∧ l = blockS n M a := by
  intro f
  induction f with
  | zero => intro done l h; simp [orderS] at h
  | succ f ih =>
    intro done l h
    unfold orderS at h
    split at h
    · simp at h
    · rename_i a ha
      rcases List.mem_cons.1 h with rfl | h
      · exact ⟨a, (pickS_some ha).1, rfl⟩
      · exact ih _ l h
/-- The level of relations, when there are blocks. -/
structure LevOk (E D : Nat → Nat → Bool) (R : Nat) (ls : List (List Nat)) (L : Nat → Int) : Prop where
  lt : ∀ own ∈ ls, ∀ a ∈ own, a < R
  ne : ∀ own ∈ ls, 0 < own.length
  same : ∀ own ∈ ls, ∀ a ∈ own, ∀ b ∈ own, L a = L b
  use : ∀ a b, a < R → b < R → E a b = true → L b ≤ L a
  den : ∀ a b, a < R → b < R → D a b = true → L b < L a
  need : ∀ own ∈ ls, ∀ a ∈ own, L a = needB E D R own L own
  bd : ∀ a, 0 ≤ L a ∧ L a ≤ 48
theorem lev_ok {E D : Nat → Nat → Bool} {R : Nat} (hR : R ≤ 48) (hDE : ∀ a b, D a b = true → E a b = true) (ho : ordB R D (fwM E R) = true) : LevOk E D R (orderS R (fwM E R) R []) (levelsF E D R (orderS R (fwM E R) R [])) := by
  obtain ⟨hf, hleast⟩ := levels_least hDE ho
  obtain ⟨L, hL⟩ : ∃ L, L = levelsF E D R (orderS R (fwM E R) R []) := ⟨_, rfl⟩
  rw [← hL] at hf hleast ⊢
  have hbd : ∀ a, 0 ≤ L a ∧ L a ≤ 48 := fun a => by
    have h1 := levelsF_le (E := E) (D := D) (n := R) (orderS R (fwM E R) R []) a
    have h2 := orderS_len (n := R) (M := fwM E R) R []
    rw [hL]; omega
  have hlt : ∀ own ∈ orderS R (fwM E R) R [], ∀ a ∈ own, a < R := fun own h a ha => by
    obtain ⟨a0, _, rfl⟩ := orderS_lt _ _ own h
    exact (mem_blockS.1 ha).1
  have hway : ∀ own ∈ orderS R (fwM E R) R [], ∀ a ∈ own, ∀ b ∈ own, a = b ∨ fwM E R a b = true := fun own h a ha b hb => by
    obtain ⟨a0, h0, rfl⟩ := orderS_lt _ _ own h
    obtain ⟨h1, h2⟩ := mem_blockS.1 ha
    obtain ⟨h3, h4⟩ := mem_blockS.1 hb
    rcases h2 with rfl | ⟨h5, h6⟩
    · rcases h4 with rfl | ⟨h7, _⟩
      · exact .inl rfl
      · exact .inr h7
    · rcases h4 with rfl | ⟨h7, _⟩
      · exact .inr h6
      · exact .inr (fw_trans h0 h6 h7)
  have hsame : ∀ own ∈ orderS R (fwM E R) R [], ∀ a ∈ own, ∀ b ∈ own, L a = L b := fun own h a ha b hb => by
    have key : ∀ a ∈ own, ∀ b ∈ own, L b ≤ L a := fun a ha b hb => by
      rcases hway own h a ha b hb with rfl | h1
      · exact Int.le_refl _
      · exact hf.way (hlt own h a ha) (hlt own h b hb) h1
    exact Int.le_antisymm (key b hb a ha) (key a ha b hb)
  have hout : ∀ own ∈ orderS R (fwM E R) R [], ∀ a ∈ own, ∀ b, b < R → D a b = true → b ∉ own := fun own h a ha b hb hd hbo => by
    have h1 := ordB_iff.1 ho a b (hlt own h a ha) hb hd
    rcases hway own h b hbo a ha with h2 | h2
    · exact h1 (.inl h2.symm)
    · exact h1 (.inr h2)
  refine ⟨hlt, fun own h => ?_, hsame, hf.use, fun a b ha hb hd => by have := hf.den a b ha hb hd; omega, fun own h a ha => ?_, hbd⟩
  · obtain ⟨a0, h0, rfl⟩ := orderS_lt _ _ own h
    exact List.length_pos_of_mem (self_block h0)
  · apply Int.le_antisymm
    · have hge := needB_ge (E := E) (D := D) (n := R) (own := own) (L := L) own 0
      have hv0 : 0 ≤ needB E D R own L own := hge.1
      apply Classical.byContradiction
      intro hc
      have hfit : Fits E D R (fun x => if x ∈ own then needB E D R own L own else L x) := by
        refine ⟨fun x hx => ?_, fun x y hx hy he => ?_, fun x y hx hy hd => ?_⟩
        · show 0 ≤ if x ∈ own then _ else _
          split
          · exact hv0
          · exact (hbd x).1
        · show (if y ∈ own then _ else _) ≤ if x ∈ own then _ else _
          by_cases h1 : x ∈ own
          · by_cases h2 : y ∈ own
            · rw [if_pos h1, if_pos h2]; exact Int.le_refl _
            · rw [if_pos h1, if_neg h2]; exact (hge.2 x h1 y hy).1 h2 he
          · by_cases h2 : y ∈ own
            · rw [if_neg h1, if_pos h2]
              have h3 := hf.use x y hx hy he
              have h4 := hsame own h y h2 a ha
              omega
            · rw [if_neg h1, if_neg h2]; exact hf.use x y hx hy he
        · show (if y ∈ own then _ else _) + 1 ≤ if x ∈ own then _ else _
          by_cases h1 : x ∈ own
          · have h2 := hout own h x h1 y hy hd
            rw [if_pos h1, if_neg h2]; exact (hge.2 x h1 y hy).2 hd
          · by_cases h2 : y ∈ own
            · rw [if_neg h1, if_pos h2]
              have h3 := hf.den x y hx hy hd
              have h4 := hsame own h y h2 a ha
              omega
            · rw [if_neg h1, if_neg h2]; exact hf.den x y hx hy hd
      have h5 := hleast _ hfit a (hlt own h a ha)
      simp only [ha, if_true] at h5
      exact hc h5
    · refine needB_up own 0 (hbd a).1 fun x hx b hb => ⟨fun _ he => ?_, fun hd => ?_⟩
      · rw [hsame own h a ha x hx]; exact hf.use x b (hlt own h x hx) hb he
      · rw [hsame own h a ha x hx]; exact hf.den x b (hlt own h x hx) hb hd
theorem blocks_err {R : Nat} {rs : List RuleD} (hm : MadeOk R rs) (h : (blocksS R rs).2 ≠ 0) : blocksS R rs = ([], 10) ∧ ordB R (ED rs) (fwM (EU rs) R) = false := by
  unfold blocksS at h ⊢
  rw [if_neg (by rw [hm.ck]; simp)] at h ⊢
  rw [Int.toNat_natCast] at h ⊢
  split
  · rename_i h2; rw [if_pos h2] at h; exact absurd rfl h
  · rename_i h2; exact ⟨rfl, by simpa using h2⟩
theorem blocks_ok {R : Nat} {rs : List RuleD} (hm : MadeOk R rs) (h : (blocksS R rs).2 = 0) : blocksS R rs = (orderS R (fwM (EU rs) R) R [], 0) ∧ ordB R (ED rs) (fwM (EU rs) R) = true := by
  unfold blocksS at h ⊢
  rw [if_neg (by rw [hm.ck]; simp)] at h ⊢
  rw [Int.toNat_natCast] at h ⊢
  split
  · rename_i h2; exact ⟨rfl, h2⟩
  · rename_i h2; rw [if_neg h2] at h; simp at h
theorem levels_err {R : Nat} {rs : List RuleD} (h : (blocksS R rs).2 ≠ 0) : levelsS R rs = ([], (blocksS R rs).2) := by
  unfold levelsS; rw [if_pos h]
theorem levels_ok {R : Nat} {rs : List RuleD} (h : (blocksS R rs).2 = 0) : levelsS R rs = ((List.range R).map (levelsF (EU rs) (ED rs) R (blocksS R rs).1), 0) := by
  unfold levelsS; rw [if_neg (by rw [h]; simp), Int.toNat_natCast]
variable {S : Nat → Prop} {w0 : World} {η : Heap}
theorem OutL.at {a : Option Addr} {ls : List (List Nat)} (h : OutL S w0 η a ls) {i : Nat} (hi : i < ls.length) : (∃ ad, a = some ad ∧ ad.spot = none) ∧ ∃ b c, At S w0 η (sAt a (i * 1)) (.slice b ls[i].length c) ∧ Row S w0 η b (nats ls[i]) := by
  obtain ⟨ps, h1, h2, h3⟩ := h
  have hp : i < ps.length := by rw [h1]; simpa using hi
  have hm : i < (ls.map fun l => l.map fun (b : Nat) => (b : Int)).length := by simpa using hi
  have h4 := h3 i hp hm
  have e : (List.zipWith (fun (p : Option Addr × Nat) (l : List Int) => Value.slice p.1 l.length p.2) ps (ls.map fun l => l.map fun (b : Nat) => (b : Int)))[i]? = some (.slice ps[i].1 ls[i].length ps[i].2) := by
    rw [List.getElem?_zipWith, List.getElem?_eq_getElem hp, List.getElem?_eq_getElem hm]
    simp
  refine ⟨h2.ad (List.length_pos_of_mem (List.mem_of_getElem? e)), ps[i].1, ps[i].2, by rw [Nat.mul_one]; exact h2.cell i _ e, ?_⟩
  rw [nats_ints]
  simpa using h4
theorem WhereN_fn {a : Option Addr} {xs : List Nat} {c : Nat} (b : Nat) (hx : Row S w0 η a (nats xs)) (hl : xs.length < 2 ^ 63) :
    Rt Try.prog 22 [.slice a xs.length c, .int .i64 (b : Int)].toArray S w0 η (fun v η' => v = .int .i64 (whereA b (casts xs) 0) ∧ η' = η) := by
  have h := Where_fn (a := a) (xs := casts xs) (c := c) (b : Int) (by unfold casts; rw [← nats_ints]; exact hx) (by simpa [casts] using hl)
  simp only [casts, List.length_map] at h
  exact h
theorem where_in {xs : List Nat} {b : Nat} : 0 ≤ whereA (b : Int) (casts xs) 0 ↔ b ∈ xs := by
  rw [whereA_ge]
  unfold casts
  simp only [List.mem_map]
  exact ⟨fun ⟨a, h, e⟩ => by have : a = b := by omega
                             subst this; exact h, fun h => ⟨b, h, rfl⟩⟩
end Go.Proofs.Ytdehpaikapbckaa
/- The law of levels. -/
namespace Go.Proofs.Ytdehpaikapbckaa
open Go.Sl
variable {S : Nat → Prop} {w0 : World} {η : Heap}
set_option maxHeartbeats 2000000 in
theorem StratLevels_fn {fa : Option Addr} {xs : List Nat} {m fc : Nat} (hm : m < 256) (hx : Row S w0 [] fa (u16s xs)) (hfc : xs.length ≤ fc) (hxs : ∀ n ∈ xs, n < 65536) (hl : xs.length < 2 ^ 63) :
    Rt Try.prog 6 [.int .u8 (m : Int), .slice fa xs.length fc].toArray S w0 [] (fun v _ => v = .bool true) := by
  have hF := open_wide
  refine Rt.of (fn := Try.f6) Try.func6 rfl rfl ?_
  refine T.seq ?_
  refine T.region ?_
  refine TL.assign hF rfl rfl ?_
  refine TL.nil ?_
  refine TQ.then_n ?_
  refine T.seq ?_
  refine T.seq ?_
  refine T.region ?_
  have hb := Back.refl S w0
  refine TL.move hF rfl rfl ?_
  refine TL.len hF rfl rfl ?_
  refine TL.bin hF rfl rfl rfl rfl ?_
  refine TL.nil ?_
  refine TQ.then_n ?_
  first | refine T.cond_d rfl (fun ht21 => ?_) (fun ht21 => ?_) | refine T.cond _ rfl (fun ht21 => ?_) (fun ht21 => ?_)
  · refine T.seq ?_
    refine T.region ?_
    refine TL.call hF awake_fn rfl rfl ?_
    rintro _ _ rfl
    refine TL.assign hF rfl rfl ?_
    refine TL.nil ?_
    refine TQ.then_n ?_
    refine T.ret ?_
    refine TQ.then_r ?_
    exact TQ.retsF [4] _ hb rfl rfl rfl (fun _ => rfl)
  · refine T.skip ?_
    refine TQ.then_n ?_
    refine T.seq ?_
    refine T.region ?_
    refine TL.move hF rfl rfl ?_
    refine TL.convK hF rfl (u8_wrap hm) rfl ?_
    refine TL.remN (b := 12) hF rfl rfl (by decide) rfl ?_
    refine TL.add hF rfl rfl (by omega) (by omega) rfl ?_
    obtain ⟨R, hRe⟩ : ∃ R : Nat, R = 1 + m % 12 := ⟨_, rfl⟩
    have hR12 : 0 < R ∧ R ≤ 12 := by omega
    rw [show (1 : Int) + ((m % 12 : Nat) : Int) = (R : Int) by omega]
    have hl60 : xs.length ≤ 60 := by have h : ¬ (60 : Int) < (xs.length : Int) := ht21; omega
    refine TL.assign hF rfl rfl ?_
    refine TL.nil ?_
    refine TQ.then_n ?_
    refine T.seq ?_
    refine T.region ?_
    refine TL.move hF rfl rfl ?_
    refine TL.move hF rfl rfl ?_
    refine TL.call hF (loose_fn hx hl60 hfc hxs hR12.1 (by omega)) rfl rfl ?_
    rintro _ _ ⟨pa, pc, s1, rs, rfl, rfl, hr, hkey⟩
    have hmo := made_ok hkey hR12.1 (by omega) hl60
    refine TL.freeze s1 rfl (fun S1 w1 hz1 => ?_)
    have hb := hb.frz hz1
    have hr := hr.frz hz1
    refine TL.assign hF rfl rfl ?_
    refine TL.nil ?_
    refine TQ.then_n ?_
    refine T.seq ?_
    refine T.region ?_
    refine TL.move hF rfl rfl ?_
    refine TL.move hF rfl rfl ?_
    refine TL.call hF (Blocks_prog (R : Int) hr (by have := hmo.len; omega) hmo.bl63) rfl rfl ?_
    rintro _ _ ⟨ba, bc, s2, rfl, rfl, hO⟩
    refine TL.freeze s2 rfl (fun S2 w2 hz2 => ?_)
    have hb := hb.frz hz2
    have hr := hr.old hz2
    have hO := hO.frz hz2
    refine TL.move hF rfl rfl ?_
    refine TL.extract hF rfl rfl rfl ?_
    refine TL.extract hF rfl rfl rfl ?_
    refine TL.assign hF rfl rfl ?_
    refine TL.assign hF rfl rfl ?_
    refine TL.nil ?_
    refine TQ.then_n ?_
    refine T.seq ?_
    refine T.region ?_
    refine TL.move hF rfl rfl ?_
    refine TL.move hF rfl rfl ?_
    refine TL.call hF (Levels_prog (R : Int) hr (by have := hmo.len; omega) hmo.bl63) rfl rfl ?_
    rintro _ _ ⟨la, lc, s3, rfl, rfl, hLr⟩
    refine TL.freeze s3 rfl (fun S3 w3 hz3 => ?_)
    have hb := hb.frz hz3
    have hr := hr.old hz3
    have hO := hO.old hz3
    have hLr := hLr.frz hz3
    refine TL.move hF rfl rfl ?_
    refine TL.extract hF rfl rfl rfl ?_
    refine TL.extract hF rfl rfl rfl ?_
    refine TL.assign hF rfl rfl ?_
    refine TL.assign hF rfl rfl ?_
    refine TL.nil ?_
    refine TQ.then_n ?_
    refine T.seq ?_
    refine T.seq ?_
    refine T.region ?_
    refine TL.move hF rfl rfl ?_
    refine TL.bin hF rfl rfl rfl rfl ?_
    refine TL.nil ?_
    refine TQ.then_n ?_
    first | refine T.cond_d rfl (fun ht43 => ?_) (fun ht43 => ?_) | refine T.cond _ rfl (fun ht43 => ?_) (fun ht43 => ?_)
    · refine T.seq ?_
      refine T.region ?_
      have hle := levels_err (R := R) (rs := rs) ht43
      rw [hle]
      refine TL.move hF rfl rfl ?_
      refine TL.move hF rfl rfl ?_
      refine TL.bin hF rfl rfl rfl rfl ?_
      refine TL.move hF rfl rfl ?_
      refine TL.on rfl rfl rfl (decide_eq_true rfl) ?_
      refine TL.move hF rfl rfl ?_
      refine TL.on rfl rfl rfl (decide_eq_true rfl) ?_
      refine TL.len hF rfl rfl ?_
      refine TL.on rfl rfl rfl (decide_eq_true rfl) ?_
      refine TL.bin hF rfl rfl rfl rfl ?_
      refine TL.pickT hF rfl (decide_eq_true rfl) rfl rfl ?_
      refine TL.move hF rfl rfl ?_
      refine TL.on rfl rfl rfl (decide_eq_true rfl) ?_
      refine TL.call hF awake_fn rfl rfl ?_
      rintro _ _ rfl
      refine TL.pickT hF rfl (decide_eq_true rfl) rfl rfl ?_
      refine TL.assign hF rfl rfl ?_
      refine TL.nil ?_
      refine TQ.then_n ?_
      refine T.ret ?_
      refine TQ.then_r ?_
      exact TQ.retsF [4] _ hb rfl rfl rfl (fun _ => rfl)
    · refine T.skip ?_
      refine TQ.then_n ?_
      refine T.seq ?_
      refine T.seq ?_
      refine T.region ?_
      have hbz : (blocksS R rs).2 = 0 := Classical.not_not.1 ht43
      have hle := levels_ok (R := R) (rs := rs) hbz
      obtain ⟨hbe, hob⟩ := blocks_ok hmo hbz
      have hlk := lev_ok (E := EU rs) (D := ED rs) (R := R) (by omega) (fun a b h => uses_le h) hob
      rw [hbe] at hle hO
      obtain ⟨ls, hls⟩ : ∃ ls, ls = orderS R (fwM (EU rs) R) R [] := ⟨_, rfl⟩
      have hlsl : ls.length ≤ 48 := by have := orderS_len (n := R) (M := fwM (EU rs) R) R []; rw [hls]; omega
      simp only at hle hO
      rw [← hls] at hle hO hlk
      obtain ⟨L, hL⟩ : ∃ L, L = levelsF (EU rs) (ED rs) R ls := ⟨_, rfl⟩
      rw [← hL] at hle hlk
      rw [hle] at hLr ⊢
      rw [hbe]
      simp only [← hls]
      have hlen : ((List.range R).map L).length = R := by simp
      rw [hlen]
      have hLat : ∀ a, a < R → At S3 w3 [] (sAt la (a * 1)) (.int .i64 (L a)) := fun a ha => by
        rw [Nat.mul_one]; exact hLr.cell a _ (by simp [ints, ha])
      have hLad : ∃ ad, la = some ad ∧ ad.spot = none := hLr.ad (by simp [ints]; omega)
      refine TL.move hF rfl rfl ?_
      refine TL.bin hF rfl rfl rfl rfl ?_
      refine TL.move hF rfl rfl ?_
      refine TL.on rfl rfl rfl (decide_eq_false (by simp)) ?_
      refine TL.move hF rfl rfl ?_
      refine TL.on rfl rfl rfl (decide_eq_false (by simp)) ?_
      refine TL.len hF rfl rfl ?_
      refine TL.on rfl rfl rfl (decide_eq_false (by simp)) ?_
      refine TL.move hF rfl rfl ?_
      refine TL.on rfl rfl rfl (decide_eq_false (by simp)) ?_
      refine TL.bin hF rfl rfl rfl rfl ?_
      refine TL.pickF hF rfl (decide_eq_false (by simp)) rfl rfl ?_
      refine TL.nil ?_
      refine TQ.then_n ?_
      refine T.cond_f rfl (decide_eq_false (by simp)) ?_
      refine T.skip ?_
      refine TQ.then_n ?_
      refine T.seq ?_
      refine T.region ?_
      refine TL.move hF rfl rfl ?_
      refine TL.move hF rfl rfl ?_
      refine TL.call hF (direct_fn (R := R) hr (by have := hmo.len; omega) hmo.bl63 (by omega) hmo.rg) rfl rfl ?_
      rintro _ _ ⟨ta, tc, na, nc, s4, rfl, rfl, hT, hN⟩
      refine TL.freeze s4 rfl (fun S4 w4 hz4 => ?_)
      have hb := hb.frz hz4
      have hO := hO.old hz4
      have hLr := hLr.old hz4
      have hT := hT.frz hz4
      have hN := hN.frz hz4
      have hLat : ∀ a, a < R → At S4 w4 [] (sAt la (a * 1)) (.int .i64 (L a)) := fun a ha => hz4.old (hLat a ha)
      obtain ⟨tf, htf⟩ := hT
      obtain ⟨nf, hnf⟩ := hN
      have htE : ∀ a b, a < R → b < R → At S4 w4 [] (sAt (tf a).1 (b * 1)) (.bool (EU rs a b)) := fun a b ha hb2 => by
        rw [Nat.mul_one]; exact (htf a ha).2.2.cell b _ (rowC_get hb2)
      have hnE : ∀ a b, a < R → b < R → At S4 w4 [] (sAt (nf a).1 (b * 1)) (.bool (ED rs a b)) := fun a b ha hb2 => by
        rw [Nat.mul_one]; exact (hnf a ha).2.2.cell b _ (rowC_get hb2)
      have htA : ∀ a, a < R → ∃ ad, (tf a).1 = some ad ∧ ad.spot = none := fun a ha => (htf a ha).2.2.ad (by simp [rowC_len]; omega)
      have hnA : ∀ a, a < R → ∃ ad, (nf a).1 = some ad ∧ ad.spot = none := fun a ha => (hnf a ha).2.2.ad (by simp [rowC_len]; omega)
      refine TL.move hF rfl rfl ?_
      refine TL.extract hF rfl rfl rfl ?_
      refine TL.extract hF rfl rfl rfl ?_
      refine TL.assign hF rfl rfl ?_
      refine TL.assign hF rfl rfl ?_
      refine TL.nil ?_
      refine TQ.then_n ?_
      refine T.seq ?_
      refine T.seq ?_
      refine T.region ?_
      refine TL.move hF rfl rfl ?_
      refine TL.len hF rfl rfl ?_
      refine TL.move hF rfl rfl ?_
      refine TL.nil ?_
      refine TQ.then_n ?_
      refine T.block ?_
      refine T.loop (ι := Nat) (fun i => i ≤ ls.length) (fun i => [(5, .int .i64 (R : Int)), (7, .slice ba ls.length bc), (9, .slice la R lc), (11, .slice ta R tc), (12, .slice na R nc), (69, .slice ba ls.length bc), (70, .int .i64 (ls.length : Int)), (71, .int .i64 (i : Int))]) (fun _ => []) (fun i => ls.length - i) 0 (Nat.zero_le _) ⟨rfl, rfl, rfl, rfl, rfl, rfl, rfl, rfl, trivial⟩ rfl ?_
      rintro i hi
      refine T.seq ?_
      refine T.region ?_
      refine TL.bin hF rfl rfl rfl rfl ?_
      refine TL.nil ?_
      refine TQ.then_n ?_
      refine T.seq ?_
      first | refine T.cond_d rfl (fun ht72 => ?_) (fun ht72 => ?_) | refine T.cond _ rfl (fun ht72 => ?_) (fun ht72 => ?_)
      · refine T.skip ?_
        refine TQ.then_n ?_
        refine T.seq ?_
        refine T.block ?_
        refine T.seq ?_
        refine T.region ?_
        have hil : i < ls.length := by have h : (i : Int) < ls.length := ht72; omega
        obtain ⟨hbad, oa, oc, hov, hor⟩ := hO.at hil
        obtain ⟨own, hown⟩ : ∃ own, own = ls[i] := ⟨_, rfl⟩
        have hmem : own ∈ ls := by rw [hown]; exact List.getElem_mem _
        rw [← hown] at hov hor
        have honl : own.length ≤ 48 := by
          have := (blocksS_len R rs).2; rw [hbe, ← hls] at this; exact this own hmem
        refine TL.indexAddr hF rfl rfl hbad (by omega) (by omega) rfl ?_
        refine TL.load hF rfl (by rw [Int.toNat_natCast]; exact hov) rfl ?_
        refine TL.assign hF rfl rfl ?_
        refine TL.nil ?_
        refine TQ.then_n ?_
        refine T.seq ?_
        refine T.region ?_
        refine TL.assign hF rfl rfl ?_
        refine TL.nil ?_
        refine TQ.then_n ?_
        refine T.seq ?_
        refine T.seq ?_
        refine T.region ?_
        refine TL.move hF rfl rfl ?_
        refine TL.len hF rfl rfl ?_
        refine TL.move hF rfl rfl ?_
        refine TL.nil ?_
        refine TQ.then_n ?_
        refine T.block ?_
        refine T.loop (ι := Nat) (fun k => k ≤ own.length) (fun k => [(5, .int .i64 (R : Int)), (7, .slice ba ls.length bc), (9, .slice la R lc), (11, .slice ta R tc), (12, .slice na R nc), (69, .slice ba ls.length bc), (70, .int .i64 (ls.length : Int)), (71, .int .i64 (i : Int)), (14, .slice oa own.length oc), (15, .int .i64 (needB (EU rs) (ED rs) R own L (own.take k))), (75, .slice oa own.length oc), (76, .int .i64 (own.length : Int)), (77, .int .i64 (k : Int))]) (fun _ => []) (fun k => own.length - k) 0 (Nat.zero_le _) ⟨rfl, rfl, rfl, rfl, rfl, rfl, rfl, rfl, rfl, rfl, rfl, rfl, rfl, trivial⟩ rfl ?_
        rintro k hk
        refine T.seq ?_
        refine T.region ?_
        refine TL.bin hF rfl rfl rfl rfl ?_
        refine TL.nil ?_
        refine TQ.then_n ?_
        refine T.seq ?_
        first | refine T.cond_d rfl (fun ht78 => ?_) (fun ht78 => ?_) | refine T.cond _ rfl (fun ht78 => ?_) (fun ht78 => ?_)
        · refine T.skip ?_
          refine TQ.then_n ?_
          refine T.seq ?_
          refine T.block ?_
          refine T.seq ?_
          refine T.region ?_
          have hkl : k < own.length := by have h : (k : Int) < own.length := ht78; omega
          obtain ⟨a, ha⟩ : ∃ a, a = own[k] := ⟨_, rfl⟩
          have hao : a ∈ own := by rw [ha]; exact List.getElem_mem _
          have haR := hlk.lt own hmem a hao
          obtain ⟨a0, ha0⟩ : ∃ a0, a0 = own[0]'(by omega) := ⟨_, rfl⟩
          have ha0o : a0 ∈ own := by rw [ha0]; exact List.getElem_mem _
          have ha0R := hlk.lt own hmem a0 ha0o
          have hsm := hlk.same own hmem a hao a0 ha0o
          refine TL.indexAddr hF rfl rfl (hor.nad hkl) (by omega) (by omega) rfl ?_
          refine TL.load hF rfl (v := .int .i64 (a : Int)) (by rw [ha, Int.toNat_natCast]; exact hor.nat hkl) rfl ?_
          refine TL.assign hF rfl rfl ?_
          refine TL.nil ?_
          refine TQ.then_n ?_
          refine T.seq ?_
          refine T.seq ?_
          refine T.draw ?_
          refine DR.stepV [_] rfl [(17, _, none)] rfl rfl ⟨⟨rfl, by kernel_rfl⟩, trivial⟩ (fun ext => TL.move hF rfl rfl TL.fin) ?_
          refine DR.stepV [_, _] rfl [(81, _, some 0)] rfl rfl ⟨⟨rfl, rfl, rfl⟩, trivial⟩ (fun ext => TL.bin hF rfl rfl rfl rfl TL.fin) ?_
          refine DR.stepV [_, _, _] rfl [(82, _, some 1)] rfl rfl ⟨⟨rfl, rfl, rfl⟩, trivial⟩ (fun ext => TL.move hF rfl rfl TL.fin) ?_
          refine DR.stepV [_, _, _, _] rfl [(17, _, none), (83, _, some 2)] rfl rfl ⟨⟨rfl, by kernel_rfl⟩, ⟨rfl, rfl, rfl⟩, trivial⟩ (fun ext => TL.on rfl rfl rfl (decide_eq_false (by omega)) <| TL.move hF rfl rfl TL.fin) ?_
          refine DR.stepV [_, _, _, _, _] rfl [(5, _, none), (83, _, some 2)] rfl rfl ⟨⟨rfl, by kernel_rfl⟩, ⟨rfl, rfl, rfl⟩, trivial⟩ (fun ext => TL.on rfl rfl rfl (decide_eq_false (by omega)) <| TL.move hF rfl rfl TL.fin) ?_
          refine DR.stepV [_, _, _, _, _, _] rfl [(84, _, some 3), (85, _, some 4), (83, _, some 2)] rfl rfl ⟨⟨rfl, rfl, rfl⟩, ⟨rfl, rfl, rfl⟩, ⟨rfl, rfl, rfl⟩, trivial⟩ (fun ext => TL.on rfl rfl rfl (decide_eq_false (by omega)) <| TL.bin hF rfl rfl rfl rfl TL.fin) ?_
          refine DR.stepV [_, _, _, _, _, _, _] rfl [(83, _, some 2), (86, _, some 5)] rfl rfl ⟨⟨rfl, rfl, rfl⟩, ⟨rfl, rfl, rfl⟩, trivial⟩ (fun ext => TL.pickF hF rfl (decide_eq_false (by omega)) rfl rfl TL.fin) ?_
          refine DR.stepV [_, _, _, _, _, _, _, _] rfl [(87, _, some 6)] rfl rfl ⟨⟨rfl, rfl, rfl⟩, trivial⟩ (fun ext => TL.move hF rfl rfl TL.fin) ?_
          refine DR.stepV [_, _, _, _, _, _, _, _, _] rfl [(9, _, none), (88, _, some 7)] rfl rfl ⟨⟨rfl, by kernel_rfl⟩, ⟨rfl, rfl, rfl⟩, trivial⟩ (fun ext => TL.on rfl rfl rfl (decide_eq_false (by omega)) <| TL.move hF rfl rfl TL.fin) ?_
          refine DR.stepV [_, _, _, _, _, _, _, _, _, _] rfl [(17, _, none), (88, _, some 7)] rfl rfl ⟨⟨rfl, by kernel_rfl⟩, ⟨rfl, rfl, rfl⟩, trivial⟩ (fun ext => TL.on rfl rfl rfl (decide_eq_false (by omega)) <| TL.move hF rfl rfl TL.fin) ?_
          refine DR.stepV [_, _, _, _, _, _, _, _, _, _, _] rfl [(89, _, some 8), (90, _, some 9), (88, _, some 7)] rfl rfl ⟨⟨rfl, rfl, rfl⟩, ⟨rfl, rfl, rfl⟩, ⟨rfl, rfl, rfl⟩, trivial⟩ (fun ext => TL.on rfl rfl rfl (decide_eq_false (by omega)) <| TL.indexAddr hF rfl rfl hLad (by omega) (by omega) rfl TL.fin) ?_
          refine DR.stepV [_, _, _, _, _, _, _, _, _, _, _, _] rfl [(91, _, some 10), (88, _, some 7)] rfl rfl ⟨⟨rfl, rfl, rfl⟩, ⟨rfl, rfl, rfl⟩, trivial⟩ (fun ext => TL.on rfl rfl rfl (decide_eq_false (by omega)) <| TL.load hF rfl (v := .int .i64 (L a)) (by rw [Int.toNat_natCast]; exact hLat a (by omega)) rfl TL.fin) ?_
          refine DR.stepV [_, _, _, _, _, _, _, _, _, _, _, _, _] rfl [(9, _, none), (88, _, some 7)] rfl rfl ⟨⟨rfl, by kernel_rfl⟩, ⟨rfl, rfl, rfl⟩, trivial⟩ (fun ext => TL.on rfl rfl rfl (decide_eq_false (by omega)) <| TL.move hF rfl rfl TL.fin) ?_
          refine DR.stepV [_, _, _, _, _, _, _, _, _, _, _, _, _, _] rfl [(14, _, none), (88, _, some 7)] rfl rfl ⟨⟨rfl, by kernel_rfl⟩, ⟨rfl, rfl, rfl⟩, trivial⟩ (fun ext => TL.on rfl rfl rfl (decide_eq_false (by omega)) <| TL.move hF rfl rfl TL.fin) ?_
          refine DR.stepV [_, _, _, _, _, _, _, _, _, _, _, _, _, _, _] rfl [(94, _, some 13), (88, _, some 7)] rfl rfl ⟨⟨rfl, rfl, rfl⟩, ⟨rfl, rfl, rfl⟩, trivial⟩ (fun ext => TL.on rfl rfl rfl (decide_eq_false (by omega)) <| TL.indexAddr hF rfl rfl (hor.nad (i := 0) (by omega)) (by omega) (by omega) rfl TL.fin) ?_
          refine DR.stepV [_, _, _, _, _, _, _, _, _, _, _, _, _, _, _, _] rfl [(95, _, some 14), (88, _, some 7)] rfl rfl ⟨⟨rfl, rfl, rfl⟩, ⟨rfl, rfl, rfl⟩, trivial⟩ (fun ext => TL.on rfl rfl rfl (decide_eq_false (by omega)) <| TL.load hF rfl (v := .int .i64 (a0 : Int)) (by rw [ha0]; exact hor.nat (i := 0) (by omega)) rfl TL.fin) ?_
          refine DR.stepV [_, _, _, _, _, _, _, _, _, _, _, _, _, _, _, _, _] rfl [(93, _, some 12), (96, _, some 15), (88, _, some 7)] rfl rfl ⟨⟨rfl, rfl, rfl⟩, ⟨rfl, rfl, rfl⟩, ⟨rfl, rfl, rfl⟩, trivial⟩ (fun ext => TL.on rfl rfl rfl (decide_eq_false (by omega)) <| TL.indexAddr hF rfl rfl hLad (by omega) (by omega) rfl TL.fin) ?_
          refine DR.stepV [_, _, _, _, _, _, _, _, _, _, _, _, _, _, _, _, _, _] rfl [(97, _, some 16), (88, _, some 7)] rfl rfl ⟨⟨rfl, rfl, rfl⟩, ⟨rfl, rfl, rfl⟩, trivial⟩ (fun ext => TL.on rfl rfl rfl (decide_eq_false (by omega)) <| TL.load hF rfl (v := .int .i64 (L a0)) (by rw [Int.toNat_natCast]; exact hLat a0 (by omega)) rfl TL.fin) ?_
          refine DR.done [(98, _), (97, _), (96, _), (95, _), (94, _), (93, _), (92, _), (91, _), (90, _), (89, _), (88, _), (87, _), (86, _), (85, _), (84, _), (83, _), (82, _), (81, _)] [_, _] mixed (by kernel_rfl) (by kernel_rfl) (by kernel_rfl) rfl rfl ?_
          refine TL.on rfl rfl rfl (decide_eq_false (by omega)) ?_
          refine TL.bin hF rfl rfl rfl rfl ?_
          refine TL.pickF hF rfl (decide_eq_false (by omega)) rfl rfl ?_
          refine TL.nil ?_
          refine TQ.then_n ?_
          refine T.cond_f rfl (decide_eq_false (by rw [hsm]; simp)) ?_
          refine T.skip ?_
          refine TQ.then_n ?_
          refine T.seq ?_
          refine T.region ?_
          refine TL.move hF rfl rfl ?_
          refine TL.len hF rfl rfl ?_
          refine TL.move hF rfl rfl ?_
          refine TL.nil ?_
          refine TQ.then_n ?_
          refine T.block ?_
          have hnb := needB_snoc (EU rs) (ED rs) R own L (own.take k) a
          refine T.loop (ι := Nat) (fun j => j ≤ R) (fun j => [(5, .int .i64 (R : Int)), (7, .slice ba ls.length bc), (9, .slice la R lc), (11, .slice ta R tc), (12, .slice na R nc), (69, .slice ba ls.length bc), (70, .int .i64 (ls.length : Int)), (71, .int .i64 (i : Int)), (14, .slice oa own.length oc), (15, .int .i64 (needA (EU rs) (ED rs) own L a (needB (EU rs) (ED rs) R own L (own.take k)) j)), (75, .slice oa own.length oc), (76, .int .i64 (own.length : Int)), (77, .int .i64 (k : Int)), (17, .int .i64 (a : Int)), (102, .int .i64 (R : Int)), (103, .int .i64 (j : Int))]) (fun _ => []) (fun j => R - j) 0 (Nat.zero_le _) ⟨rfl, rfl, rfl, rfl, rfl, rfl, rfl, rfl, rfl, rfl, rfl, rfl, rfl, rfl, rfl, rfl, trivial⟩ rfl ?_
          rintro j hj
          have hLj := hlk.bd j
          refine T.seq ?_
          refine T.region ?_
          refine TL.bin hF rfl rfl rfl rfl ?_
          refine TL.nil ?_
          refine TQ.then_n ?_
          refine T.seq ?_
          first | refine T.cond_d rfl (fun ht104 => ?_) (fun ht104 => ?_) | refine T.cond _ rfl (fun ht104 => ?_) (fun ht104 => ?_)
          · refine T.skip ?_
            refine TQ.then_n ?_
            refine T.seq ?_
            refine T.block ?_
            refine T.seq ?_
            refine T.region ?_
            refine TL.move hF rfl rfl ?_
            refine TL.assign hF rfl rfl ?_
            refine TL.nil ?_
            refine TQ.then_n ?_
            refine T.seq ?_
            refine T.seq ?_
            have h3 : (EU rs a j = true ∧ ED rs a j = true) ∨ (EU rs a j = true ∧ ED rs a j = false) ∨ (EU rs a j = false ∧ ED rs a j = false) := by
              cases he : EU rs a j <;> cases hd : ED rs a j <;> simp
              have := uses_le (a := a) (b := j) (xs := rs) hd; rw [show uses a j false rs = false from he] at this; cases this
            have hu1 : j < R → EU rs a j = true → L j ≤ L a := fun h1 h2 => hlk.use a j haR h1 h2
            have hd1 : j < R → ED rs a j = true → L j < L a := fun h1 h2 => hlk.den a j haR h1 h2
            rcases h3 with ⟨hc1, hc2⟩ | ⟨hc1, hc2⟩ | ⟨hc1, hc2⟩
            · have hjR : j < R := by have h : (j : Int) < R := ht104; omega
              refine T.draw ?_
              refine DR.stepV [_] rfl [(11, _, none)] rfl rfl ⟨⟨rfl, by kernel_rfl⟩, trivial⟩ (fun ext => TL.move hF rfl rfl TL.fin) ?_
              refine DR.stepV [_, _] rfl [(17, _, none)] rfl rfl ⟨⟨rfl, by kernel_rfl⟩, trivial⟩ (fun ext => TL.move hF rfl rfl TL.fin) ?_
              refine DR.stepV [_, _, _] rfl [(106, _, some 0), (107, _, some 1)] rfl rfl ⟨⟨rfl, rfl, rfl⟩, ⟨rfl, rfl, rfl⟩, trivial⟩ (fun ext => TL.indexAddr hF rfl rfl ((htf a haR).1) (by omega) (by omega) rfl TL.fin) ?_
              refine DR.stepV [_, _, _, _] rfl [(108, _, some 2)] rfl rfl ⟨⟨rfl, rfl, rfl⟩, trivial⟩ (fun ext => TL.load hF rfl (by rw [Int.toNat_natCast]; exact (htf a haR).2.1) rfl TL.fin) ?_
              refine DR.stepV [_, _, _, _, _] rfl [(18, _, none)] rfl rfl ⟨⟨rfl, by kernel_rfl⟩, trivial⟩ (fun ext => TL.move hF rfl rfl TL.fin) ?_
              refine DR.stepV [_, _, _, _, _, _] rfl [(109, _, some 3), (110, _, some 4)] rfl rfl ⟨⟨rfl, rfl, rfl⟩, ⟨rfl, rfl, rfl⟩, trivial⟩ (fun ext => TL.indexAddr hF rfl rfl (htA a haR) (by omega) (by omega) rfl TL.fin) ?_
              refine DR.stepV [_, _, _, _, _, _, _] rfl [(111, _, some 5)] rfl rfl ⟨⟨rfl, rfl, rfl⟩, trivial⟩ (fun ext => TL.load hF rfl (by rw [Int.toNat_natCast]; exact htE a j haR hjR) rfl TL.fin) ?_
              refine DR.stepV [_, _, _, _, _, _, _, _] rfl [(112, _, some 6)] rfl rfl ⟨⟨rfl, rfl, rfl⟩, trivial⟩ (fun ext => TL.move hF rfl rfl TL.fin) ?_
              refine DR.stepV [_, _, _, _, _, _, _, _, _] rfl [(9, _, none), (113, _, some 7)] rfl rfl ⟨⟨rfl, by kernel_rfl⟩, ⟨rfl, rfl, rfl⟩, trivial⟩ (fun ext => TL.on rfl rfl rfl hc1 <| TL.move hF rfl rfl TL.fin) ?_
              refine DR.stepV [_, _, _, _, _, _, _, _, _, _] rfl [(18, _, none), (113, _, some 7)] rfl rfl ⟨⟨rfl, by kernel_rfl⟩, ⟨rfl, rfl, rfl⟩, trivial⟩ (fun ext => TL.on rfl rfl rfl hc1 <| TL.move hF rfl rfl TL.fin) ?_
              refine DR.stepV [_, _, _, _, _, _, _, _, _, _, _] rfl [(114, _, some 8), (115, _, some 9), (113, _, some 7)] rfl rfl ⟨⟨rfl, rfl, rfl⟩, ⟨rfl, rfl, rfl⟩, ⟨rfl, rfl, rfl⟩, trivial⟩ (fun ext => TL.on rfl rfl rfl hc1 <| TL.indexAddr hF rfl rfl hLad (by omega) (by omega) rfl TL.fin) ?_
              refine DR.stepV [_, _, _, _, _, _, _, _, _, _, _, _] rfl [(116, _, some 10), (113, _, some 7)] rfl rfl ⟨⟨rfl, rfl, rfl⟩, ⟨rfl, rfl, rfl⟩, trivial⟩ (fun ext => TL.on rfl rfl rfl hc1 <| TL.load hF rfl (v := .int .i64 (L j)) (by rw [Int.toNat_natCast]; exact hLat j (by omega)) rfl TL.fin) ?_
              refine DR.stepV [_, _, _, _, _, _, _, _, _, _, _, _, _] rfl [(9, _, none), (113, _, some 7)] rfl rfl ⟨⟨rfl, by kernel_rfl⟩, ⟨rfl, rfl, rfl⟩, trivial⟩ (fun ext => TL.on rfl rfl rfl hc1 <| TL.move hF rfl rfl TL.fin) ?_
              refine DR.stepV [_, _, _, _, _, _, _, _, _, _, _, _, _, _] rfl [(17, _, none), (113, _, some 7)] rfl rfl ⟨⟨rfl, by kernel_rfl⟩, ⟨rfl, rfl, rfl⟩, trivial⟩ (fun ext => TL.on rfl rfl rfl hc1 <| TL.move hF rfl rfl TL.fin) ?_
              refine DR.stepV [_, _, _, _, _, _, _, _, _, _, _, _, _, _, _] rfl [(118, _, some 12), (119, _, some 13), (113, _, some 7)] rfl rfl ⟨⟨rfl, rfl, rfl⟩, ⟨rfl, rfl, rfl⟩, ⟨rfl, rfl, rfl⟩, trivial⟩ (fun ext => TL.on rfl rfl rfl hc1 <| TL.indexAddr hF rfl rfl hLad (by omega) (by omega) rfl TL.fin) ?_
              refine DR.stepV [_, _, _, _, _, _, _, _, _, _, _, _, _, _, _, _] rfl [(120, _, some 14), (113, _, some 7)] rfl rfl ⟨⟨rfl, rfl, rfl⟩, ⟨rfl, rfl, rfl⟩, trivial⟩ (fun ext => TL.on rfl rfl rfl hc1 <| TL.load hF rfl (v := .int .i64 (L a)) (by rw [Int.toNat_natCast]; exact hLat a (by omega)) rfl TL.fin) ?_
              refine DR.stepV [_, _, _, _, _, _, _, _, _, _, _, _, _, _, _, _, _] rfl [(117, _, some 11), (121, _, some 15), (113, _, some 7)] rfl rfl ⟨⟨rfl, rfl, rfl⟩, ⟨rfl, rfl, rfl⟩, ⟨rfl, rfl, rfl⟩, trivial⟩ (fun ext => TL.on rfl rfl rfl hc1 <| TL.bin hF rfl rfl rfl rfl TL.fin) ?_
              refine DR.stepV [_, _, _, _, _, _, _, _, _, _, _, _, _, _, _, _, _, _] rfl [(113, _, some 7), (122, _, some 16)] rfl rfl ⟨⟨rfl, rfl, rfl⟩, ⟨rfl, rfl, rfl⟩, trivial⟩ (fun ext => TL.pickT hF rfl hc1 rfl rfl TL.fin) ?_
              refine DR.stepV [_, _, _, _, _, _, _, _, _, _, _, _, _, _, _, _, _, _, _] rfl [(123, _, some 17)] rfl rfl ⟨⟨rfl, rfl, rfl⟩, trivial⟩ (fun ext => TL.move hF rfl rfl TL.fin) ?_
              refine DR.stepV [_, _, _, _, _, _, _, _, _, _, _, _, _, _, _, _, _, _, _, _] rfl [(12, _, none), (124, _, some 18)] rfl rfl ⟨⟨rfl, by kernel_rfl⟩, ⟨rfl, rfl, rfl⟩, trivial⟩ (fun ext => TL.on rfl rfl rfl (decide_eq_false (by have := hu1 hjR hc1; omega)) <| TL.move hF rfl rfl TL.fin) ?_
              refine DR.stepV [_, _, _, _, _, _, _, _, _, _, _, _, _, _, _, _, _, _, _, _, _] rfl [(17, _, none), (124, _, some 18)] rfl rfl ⟨⟨rfl, by kernel_rfl⟩, ⟨rfl, rfl, rfl⟩, trivial⟩ (fun ext => TL.on rfl rfl rfl (decide_eq_false (by have := hu1 hjR hc1; omega)) <| TL.move hF rfl rfl TL.fin) ?_
              refine DR.stepV [_, _, _, _, _, _, _, _, _, _, _, _, _, _, _, _, _, _, _, _, _, _] rfl [(125, _, some 19), (126, _, some 20), (124, _, some 18)] rfl rfl ⟨⟨rfl, rfl, rfl⟩, ⟨rfl, rfl, rfl⟩, ⟨rfl, rfl, rfl⟩, trivial⟩ (fun ext => TL.on rfl rfl rfl (decide_eq_false (by have := hu1 hjR hc1; omega)) <| TL.indexAddr hF rfl rfl ((hnf a haR).1) (by omega) (by omega) rfl TL.fin) ?_
              refine DR.stepV [_, _, _, _, _, _, _, _, _, _, _, _, _, _, _, _, _, _, _, _, _, _, _] rfl [(127, _, some 21), (124, _, some 18)] rfl rfl ⟨⟨rfl, rfl, rfl⟩, ⟨rfl, rfl, rfl⟩, trivial⟩ (fun ext => TL.on rfl rfl rfl (decide_eq_false (by have := hu1 hjR hc1; omega)) <| TL.load hF rfl (by rw [Int.toNat_natCast]; exact (hnf a haR).2.1) rfl TL.fin) ?_
              refine DR.stepV [_, _, _, _, _, _, _, _, _, _, _, _, _, _, _, _, _, _, _, _, _, _, _, _] rfl [(18, _, none), (124, _, some 18)] rfl rfl ⟨⟨rfl, by kernel_rfl⟩, ⟨rfl, rfl, rfl⟩, trivial⟩ (fun ext => TL.on rfl rfl rfl (decide_eq_false (by have := hu1 hjR hc1; omega)) <| TL.move hF rfl rfl TL.fin) ?_
              refine DR.stepV [_, _, _, _, _, _, _, _, _, _, _, _, _, _, _, _, _, _, _, _, _, _, _, _, _] rfl [(128, _, some 22), (129, _, some 23), (124, _, some 18)] rfl rfl ⟨⟨rfl, rfl, rfl⟩, ⟨rfl, rfl, rfl⟩, ⟨rfl, rfl, rfl⟩, trivial⟩ (fun ext => TL.on rfl rfl rfl (decide_eq_false (by have := hu1 hjR hc1; omega)) <| TL.indexAddr hF rfl rfl (hnA a haR) (by omega) (by omega) rfl TL.fin) ?_
              refine DR.stepV [_, _, _, _, _, _, _, _, _, _, _, _, _, _, _, _, _, _, _, _, _, _, _, _, _, _] rfl [(130, _, some 24), (124, _, some 18)] rfl rfl ⟨⟨rfl, rfl, rfl⟩, ⟨rfl, rfl, rfl⟩, trivial⟩ (fun ext => TL.on rfl rfl rfl (decide_eq_false (by have := hu1 hjR hc1; omega)) <| TL.load hF rfl (by rw [Int.toNat_natCast]; exact hnE a j haR hjR) rfl TL.fin) ?_
              refine DR.stepV [_, _, _, _, _, _, _, _, _, _, _, _, _, _, _, _, _, _, _, _, _, _, _, _, _, _, _] rfl [(131, _, some 25), (124, _, some 18)] rfl rfl ⟨⟨rfl, rfl, rfl⟩, ⟨rfl, rfl, rfl⟩, trivial⟩ (fun ext => TL.on rfl rfl rfl (decide_eq_false (by have := hu1 hjR hc1; omega)) <| TL.move hF rfl rfl TL.fin) ?_
              refine DR.stepV [_, _, _, _, _, _, _, _, _, _, _, _, _, _, _, _, _, _, _, _, _, _, _, _, _, _, _, _] rfl [(9, _, none), (132, _, some 26)] rfl rfl ⟨⟨rfl, by kernel_rfl⟩, ⟨rfl, rfl, rfl⟩, trivial⟩ (fun ext => TL.on rfl rfl rfl hc2 <| TL.move hF rfl rfl TL.fin) ?_
              refine DR.stepV [_, _, _, _, _, _, _, _, _, _, _, _, _, _, _, _, _, _, _, _, _, _, _, _, _, _, _, _, _] rfl [(18, _, none), (132, _, some 26)] rfl rfl ⟨⟨rfl, by kernel_rfl⟩, ⟨rfl, rfl, rfl⟩, trivial⟩ (fun ext => TL.on rfl rfl rfl hc2 <| TL.move hF rfl rfl TL.fin) ?_
              refine DR.stepV [_, _, _, _, _, _, _, _, _, _, _, _, _, _, _, _, _, _, _, _, _, _, _, _, _, _, _, _, _, _] rfl [(133, _, some 27), (134, _, some 28), (132, _, some 26)] rfl rfl ⟨⟨rfl, rfl, rfl⟩, ⟨rfl, rfl, rfl⟩, ⟨rfl, rfl, rfl⟩, trivial⟩ (fun ext => TL.on rfl rfl rfl hc2 <| TL.indexAddr hF rfl rfl hLad (by omega) (by omega) rfl TL.fin) ?_
              refine DR.stepV [_, _, _, _, _, _, _, _, _, _, _, _, _, _, _, _, _, _, _, _, _, _, _, _, _, _, _, _, _, _, _] rfl [(135, _, some 29), (132, _, some 26)] rfl rfl ⟨⟨rfl, rfl, rfl⟩, ⟨rfl, rfl, rfl⟩, trivial⟩ (fun ext => TL.on rfl rfl rfl hc2 <| TL.load hF rfl (v := .int .i64 (L j)) (by rw [Int.toNat_natCast]; exact hLat j (by omega)) rfl TL.fin) ?_
              refine DR.stepV [_, _, _, _, _, _, _, _, _, _, _, _, _, _, _, _, _, _, _, _, _, _, _, _, _, _, _, _, _, _, _, _] rfl [(9, _, none), (132, _, some 26)] rfl rfl ⟨⟨rfl, by kernel_rfl⟩, ⟨rfl, rfl, rfl⟩, trivial⟩ (fun ext => TL.on rfl rfl rfl hc2 <| TL.move hF rfl rfl TL.fin) ?_
              refine DR.stepV [_, _, _, _, _, _, _, _, _, _, _, _, _, _, _, _, _, _, _, _, _, _, _, _, _, _, _, _, _, _, _, _, _] rfl [(17, _, none), (132, _, some 26)] rfl rfl ⟨⟨rfl, by kernel_rfl⟩, ⟨rfl, rfl, rfl⟩, trivial⟩ (fun ext => TL.on rfl rfl rfl hc2 <| TL.move hF rfl rfl TL.fin) ?_
              refine DR.stepV [_, _, _, _, _, _, _, _, _, _, _, _, _, _, _, _, _, _, _, _, _, _, _, _, _, _, _, _, _, _, _, _, _, _] rfl [(137, _, some 31), (138, _, some 32), (132, _, some 26)] rfl rfl ⟨⟨rfl, rfl, rfl⟩, ⟨rfl, rfl, rfl⟩, ⟨rfl, rfl, rfl⟩, trivial⟩ (fun ext => TL.on rfl rfl rfl hc2 <| TL.indexAddr hF rfl rfl hLad (by omega) (by omega) rfl TL.fin) ?_
              refine DR.stepV [_, _, _, _, _, _, _, _, _, _, _, _, _, _, _, _, _, _, _, _, _, _, _, _, _, _, _, _, _, _, _, _, _, _, _] rfl [(139, _, some 33), (132, _, some 26)] rfl rfl ⟨⟨rfl, rfl, rfl⟩, ⟨rfl, rfl, rfl⟩, trivial⟩ (fun ext => TL.on rfl rfl rfl hc2 <| TL.load hF rfl (v := .int .i64 (L a)) (by rw [Int.toNat_natCast]; exact hLat a (by omega)) rfl TL.fin) ?_
              refine DR.done [(140, _), (139, _), (138, _), (137, _), (136, _), (135, _), (134, _), (133, _), (132, _), (131, _), (130, _), (129, _), (128, _), (127, _), (126, _), (125, _), (124, _), (123, _), (122, _), (121, _), (120, _), (119, _), (118, _), (117, _), (116, _), (115, _), (114, _), (113, _), (112, _), (111, _), (110, _), (109, _), (108, _), (107, _), (106, _)] [_, _, _] mixed (by kernel_rfl) (by kernel_rfl) (by kernel_rfl) rfl rfl ?_
              refine TL.on rfl rfl rfl hc2 ?_
              refine TL.bin hF rfl rfl rfl rfl ?_
              refine TL.on rfl rfl rfl (decide_eq_false (by have := hu1 hjR hc1; omega)) ?_
              refine TL.pickT hF rfl hc2 rfl rfl ?_
              refine TL.pickF hF rfl (decide_eq_false (by have := hu1 hjR hc1; omega)) rfl rfl ?_
              refine TL.nil ?_
              refine TQ.then_n ?_
              refine T.cond_f rfl (decide_eq_false (by have := hd1 hjR hc2; omega)) ?_
              refine T.skip ?_
              refine TQ.then_n ?_
              refine T.seq ?_
              refine T.seq ?_
              refine T.region ?_
              refine TL.move hF rfl rfl ?_
              refine TL.move hF rfl rfl ?_
              refine TL.indexAddr hF rfl rfl ((htf a haR).1) (by omega) (by omega) rfl ?_
              refine TL.load hF rfl (by rw [Int.toNat_natCast]; exact (htf a haR).2.1) rfl ?_
              refine TL.move hF rfl rfl ?_
              refine TL.indexAddr hF rfl rfl (htA a haR) (by omega) (by omega) rfl ?_
              refine TL.load hF rfl (by rw [Int.toNat_natCast]; exact htE a j haR hjR) rfl ?_
              refine TL.move hF rfl rfl ?_
              refine TL.on rfl rfl rfl hc1 ?_
              refine TL.move hF rfl rfl ?_
              refine TL.on rfl rfl rfl hc1 ?_
              refine TL.move hF rfl rfl ?_
              refine TL.on rfl rfl rfl hc1 ?_
              refine TL.callV hF (WhereN_fn (xs := own) j hor (by omega)) rfl rfl ?_
              refine TL.on rfl rfl rfl hc1 ?_
              refine TL.bin hF rfl rfl rfl rfl ?_
              refine TL.on rfl rfl rfl hc1 ?_
              refine TL.not hF rfl rfl ?_
              refine TL.pickT hF rfl hc1 rfl rfl ?_
              refine TL.nil ?_
              refine TQ.then_n ?_
              refine T.cond _ rfl (fun ht157 => ?_) (fun ht157 => ?_)
              · refine T.region ?_
                refine TL.move hF rfl rfl ?_
                refine TL.move hF rfl rfl ?_
                refine TL.move hF rfl rfl ?_
                refine TL.indexAddr hF rfl rfl hLad (by omega) (by omega) rfl ?_
                refine TL.load hF rfl (v := .int .i64 (L j)) (by rw [Int.toNat_natCast]; exact hLat j (by omega)) rfl ?_
                refine TL.max2 hF rfl rfl rfl ?_
                refine TL.assign hF rfl rfl ?_
                refine TL.nil ?_
                refine TQ.then_n ?_
                refine T.seq ?_
                refine T.region ?_
                refine TL.move hF rfl rfl ?_
                refine TL.move hF rfl rfl ?_
                refine TL.indexAddr hF rfl rfl ((hnf a haR).1) (by omega) (by omega) rfl ?_
                refine TL.load hF rfl (by rw [Int.toNat_natCast]; exact (hnf a haR).2.1) rfl ?_
                refine TL.move hF rfl rfl ?_
                refine TL.indexAddr hF rfl rfl (hnA a haR) (by omega) (by omega) rfl ?_
                refine TL.load hF rfl (by rw [Int.toNat_natCast]; exact hnE a j haR hjR) rfl ?_
                refine TL.nil ?_
                refine TQ.then_n ?_
                refine T.cond_t rfl hc2 ?_
                refine T.region ?_
                refine TL.move hF rfl rfl ?_
                refine TL.move hF rfl rfl ?_
                refine TL.move hF rfl rfl ?_
                refine TL.indexAddr hF rfl rfl hLad (by omega) (by omega) rfl ?_
                refine TL.load hF rfl (v := .int .i64 (L j)) (by rw [Int.toNat_natCast]; exact hLat j (by omega)) rfl ?_
                refine TL.add hF rfl rfl (by omega) (by omega) rfl ?_
                refine TL.max2 hF rfl rfl rfl ?_
                refine TL.assign hF rfl rfl ?_
                refine TL.nil ?_
                refine TQ.block_n ?_
                refine TQ.then_n ?_
                refine T.region ?_
                refine TL.add hF rfl rfl (by omega) (by omega) rfl ?_
                refine TL.move hF rfl rfl ?_
                refine TL.nil ?_
                have hin : j ∉ own := by
                  have h2 := where_in (xs := own) (b := j)
                  simp at ht157; exact fun h3 => by have := h2.2 h3; omega
                have e : needA (EU rs) (ED rs) own L a (needB (EU rs) (ED rs) R own L (own.take k)) (j + 1) = max (max (needA (EU rs) (ED rs) own L a (needB (EU rs) (ED rs) R own L (own.take k)) j) (L j)) (L j + 1) := by
                  rw [needA_succ]; unfold needS; simp [hc1, hc2, hin]
                refine TQ.round (j + 1) (by omega) (by omega) ⟨rfl, rfl, rfl, rfl, rfl, rfl, rfl, rfl, rfl, by rw [e]; rfl, rfl, rfl, rfl, rfl, rfl, rfl, trivial⟩ rfl
              · refine T.skip ?_
                refine TQ.then_n ?_
                refine T.seq ?_
                refine T.region ?_
                refine TL.move hF rfl rfl ?_
                refine TL.move hF rfl rfl ?_
                refine TL.indexAddr hF rfl rfl ((hnf a haR).1) (by omega) (by omega) rfl ?_
                refine TL.load hF rfl (by rw [Int.toNat_natCast]; exact (hnf a haR).2.1) rfl ?_
                refine TL.move hF rfl rfl ?_
                refine TL.indexAddr hF rfl rfl (hnA a haR) (by omega) (by omega) rfl ?_
                refine TL.load hF rfl (by rw [Int.toNat_natCast]; exact hnE a j haR hjR) rfl ?_
                refine TL.nil ?_
                refine TQ.then_n ?_
                refine T.cond_t rfl hc2 ?_
                refine T.region ?_
                refine TL.move hF rfl rfl ?_
                refine TL.move hF rfl rfl ?_
                refine TL.move hF rfl rfl ?_
                refine TL.indexAddr hF rfl rfl hLad (by omega) (by omega) rfl ?_
                refine TL.load hF rfl (v := .int .i64 (L j)) (by rw [Int.toNat_natCast]; exact hLat j (by omega)) rfl ?_
                refine TL.add hF rfl rfl (by omega) (by omega) rfl ?_
                refine TL.max2 hF rfl rfl rfl ?_
                refine TL.assign hF rfl rfl ?_
                refine TL.nil ?_
                refine TQ.block_n ?_
                refine TQ.then_n ?_
                refine T.region ?_
                refine TL.add hF rfl rfl (by omega) (by omega) rfl ?_
                refine TL.move hF rfl rfl ?_
                refine TL.nil ?_
                have hin : j ∈ own := by
                  have h2 := where_in (xs := own) (b := j)
                  simp at ht157; exact h2.1 ht157
                have e : needA (EU rs) (ED rs) own L a (needB (EU rs) (ED rs) R own L (own.take k)) (j + 1) = max (needA (EU rs) (ED rs) own L a (needB (EU rs) (ED rs) R own L (own.take k)) j) (L j + 1) := by
                  rw [needA_succ]; unfold needS; simp [hc1, hc2, hin]
                refine TQ.round (j + 1) (by omega) (by omega) ⟨rfl, rfl, rfl, rfl, rfl, rfl, rfl, rfl, rfl, by rw [e]; rfl, rfl, rfl, rfl, rfl, rfl, rfl, trivial⟩ rfl
            · have hjR : j < R := by have h : (j : Int) < R := ht104; omega
              refine T.draw ?_
              refine DR.stepV [_] rfl [(11, _, none)] rfl rfl ⟨⟨rfl, by kernel_rfl⟩, trivial⟩ (fun ext => TL.move hF rfl rfl TL.fin) ?_
              refine DR.stepV [_, _] rfl [(17, _, none)] rfl rfl ⟨⟨rfl, by kernel_rfl⟩, trivial⟩ (fun ext => TL.move hF rfl rfl TL.fin) ?_
              refine DR.stepV [_, _, _] rfl [(106, _, some 0), (107, _, some 1)] rfl rfl ⟨⟨rfl, rfl, rfl⟩, ⟨rfl, rfl, rfl⟩, trivial⟩ (fun ext => TL.indexAddr hF rfl rfl ((htf a haR).1) (by omega) (by omega) rfl TL.fin) ?_
              refine DR.stepV [_, _, _, _] rfl [(108, _, some 2)] rfl rfl ⟨⟨rfl, rfl, rfl⟩, trivial⟩ (fun ext => TL.load hF rfl (by rw [Int.toNat_natCast]; exact (htf a haR).2.1) rfl TL.fin) ?_
              refine DR.stepV [_, _, _, _, _] rfl [(18, _, none)] rfl rfl ⟨⟨rfl, by kernel_rfl⟩, trivial⟩ (fun ext => TL.move hF rfl rfl TL.fin) ?_
              refine DR.stepV [_, _, _, _, _, _] rfl [(109, _, some 3), (110, _, some 4)] rfl rfl ⟨⟨rfl, rfl, rfl⟩, ⟨rfl, rfl, rfl⟩, trivial⟩ (fun ext => TL.indexAddr hF rfl rfl (htA a haR) (by omega) (by omega) rfl TL.fin) ?_
              refine DR.stepV [_, _, _, _, _, _, _] rfl [(111, _, some 5)] rfl rfl ⟨⟨rfl, rfl, rfl⟩, trivial⟩ (fun ext => TL.load hF rfl (by rw [Int.toNat_natCast]; exact htE a j haR hjR) rfl TL.fin) ?_
              refine DR.stepV [_, _, _, _, _, _, _, _] rfl [(112, _, some 6)] rfl rfl ⟨⟨rfl, rfl, rfl⟩, trivial⟩ (fun ext => TL.move hF rfl rfl TL.fin) ?_
              refine DR.stepV [_, _, _, _, _, _, _, _, _] rfl [(9, _, none), (113, _, some 7)] rfl rfl ⟨⟨rfl, by kernel_rfl⟩, ⟨rfl, rfl, rfl⟩, trivial⟩ (fun ext => TL.on rfl rfl rfl hc1 <| TL.move hF rfl rfl TL.fin) ?_
              refine DR.stepV [_, _, _, _, _, _, _, _, _, _] rfl [(18, _, none), (113, _, some 7)] rfl rfl ⟨⟨rfl, by kernel_rfl⟩, ⟨rfl, rfl, rfl⟩, trivial⟩ (fun ext => TL.on rfl rfl rfl hc1 <| TL.move hF rfl rfl TL.fin) ?_
              refine DR.stepV [_, _, _, _, _, _, _, _, _, _, _] rfl [(114, _, some 8), (115, _, some 9), (113, _, some 7)] rfl rfl ⟨⟨rfl, rfl, rfl⟩, ⟨rfl, rfl, rfl⟩, ⟨rfl, rfl, rfl⟩, trivial⟩ (fun ext => TL.on rfl rfl rfl hc1 <| TL.indexAddr hF rfl rfl hLad (by omega) (by omega) rfl TL.fin) ?_
              refine DR.stepV [_, _, _, _, _, _, _, _, _, _, _, _] rfl [(116, _, some 10), (113, _, some 7)] rfl rfl ⟨⟨rfl, rfl, rfl⟩, ⟨rfl, rfl, rfl⟩, trivial⟩ (fun ext => TL.on rfl rfl rfl hc1 <| TL.load hF rfl (v := .int .i64 (L j)) (by rw [Int.toNat_natCast]; exact hLat j (by omega)) rfl TL.fin) ?_
              refine DR.stepV [_, _, _, _, _, _, _, _, _, _, _, _, _] rfl [(9, _, none), (113, _, some 7)] rfl rfl ⟨⟨rfl, by kernel_rfl⟩, ⟨rfl, rfl, rfl⟩, trivial⟩ (fun ext => TL.on rfl rfl rfl hc1 <| TL.move hF rfl rfl TL.fin) ?_
              refine DR.stepV [_, _, _, _, _, _, _, _, _, _, _, _, _, _] rfl [(17, _, none), (113, _, some 7)] rfl rfl ⟨⟨rfl, by kernel_rfl⟩, ⟨rfl, rfl, rfl⟩, trivial⟩ (fun ext => TL.on rfl rfl rfl hc1 <| TL.move hF rfl rfl TL.fin) ?_
              refine DR.stepV [_, _, _, _, _, _, _, _, _, _, _, _, _, _, _] rfl [(118, _, some 12), (119, _, some 13), (113, _, some 7)] rfl rfl ⟨⟨rfl, rfl, rfl⟩, ⟨rfl, rfl, rfl⟩, ⟨rfl, rfl, rfl⟩, trivial⟩ (fun ext => TL.on rfl rfl rfl hc1 <| TL.indexAddr hF rfl rfl hLad (by omega) (by omega) rfl TL.fin) ?_
              refine DR.stepV [_, _, _, _, _, _, _, _, _, _, _, _, _, _, _, _] rfl [(120, _, some 14), (113, _, some 7)] rfl rfl ⟨⟨rfl, rfl, rfl⟩, ⟨rfl, rfl, rfl⟩, trivial⟩ (fun ext => TL.on rfl rfl rfl hc1 <| TL.load hF rfl (v := .int .i64 (L a)) (by rw [Int.toNat_natCast]; exact hLat a (by omega)) rfl TL.fin) ?_
              refine DR.stepV [_, _, _, _, _, _, _, _, _, _, _, _, _, _, _, _, _] rfl [(117, _, some 11), (121, _, some 15), (113, _, some 7)] rfl rfl ⟨⟨rfl, rfl, rfl⟩, ⟨rfl, rfl, rfl⟩, ⟨rfl, rfl, rfl⟩, trivial⟩ (fun ext => TL.on rfl rfl rfl hc1 <| TL.bin hF rfl rfl rfl rfl TL.fin) ?_
              refine DR.stepV [_, _, _, _, _, _, _, _, _, _, _, _, _, _, _, _, _, _] rfl [(113, _, some 7), (122, _, some 16)] rfl rfl ⟨⟨rfl, rfl, rfl⟩, ⟨rfl, rfl, rfl⟩, trivial⟩ (fun ext => TL.pickT hF rfl hc1 rfl rfl TL.fin) ?_
              refine DR.stepV [_, _, _, _, _, _, _, _, _, _, _, _, _, _, _, _, _, _, _] rfl [(123, _, some 17)] rfl rfl ⟨⟨rfl, rfl, rfl⟩, trivial⟩ (fun ext => TL.move hF rfl rfl TL.fin) ?_
              refine DR.stepV [_, _, _, _, _, _, _, _, _, _, _, _, _, _, _, _, _, _, _, _] rfl [(12, _, none), (124, _, some 18)] rfl rfl ⟨⟨rfl, by kernel_rfl⟩, ⟨rfl, rfl, rfl⟩, trivial⟩ (fun ext => TL.on rfl rfl rfl (decide_eq_false (by have := hu1 hjR hc1; omega)) <| TL.move hF rfl rfl TL.fin) ?_
              refine DR.stepV [_, _, _, _, _, _, _, _, _, _, _, _, _, _, _, _, _, _, _, _, _] rfl [(17, _, none), (124, _, some 18)] rfl rfl ⟨⟨rfl, by kernel_rfl⟩, ⟨rfl, rfl, rfl⟩, trivial⟩ (fun ext => TL.on rfl rfl rfl (decide_eq_false (by have := hu1 hjR hc1; omega)) <| TL.move hF rfl rfl TL.fin) ?_
              refine DR.stepV [_, _, _, _, _, _, _, _, _, _, _, _, _, _, _, _, _, _, _, _, _, _] rfl [(125, _, some 19), (126, _, some 20), (124, _, some 18)] rfl rfl ⟨⟨rfl, rfl, rfl⟩, ⟨rfl, rfl, rfl⟩, ⟨rfl, rfl, rfl⟩, trivial⟩ (fun ext => TL.on rfl rfl rfl (decide_eq_false (by have := hu1 hjR hc1; omega)) <| TL.indexAddr hF rfl rfl ((hnf a haR).1) (by omega) (by omega) rfl TL.fin) ?_
              refine DR.stepV [_, _, _, _, _, _, _, _, _, _, _, _, _, _, _, _, _, _, _, _, _, _, _] rfl [(127, _, some 21), (124, _, some 18)] rfl rfl ⟨⟨rfl, rfl, rfl⟩, ⟨rfl, rfl, rfl⟩, trivial⟩ (fun ext => TL.on rfl rfl rfl (decide_eq_false (by have := hu1 hjR hc1; omega)) <| TL.load hF rfl (by rw [Int.toNat_natCast]; exact (hnf a haR).2.1) rfl TL.fin) ?_
              refine DR.stepV [_, _, _, _, _, _, _, _, _, _, _, _, _, _, _, _, _, _, _, _, _, _, _, _] rfl [(18, _, none), (124, _, some 18)] rfl rfl ⟨⟨rfl, by kernel_rfl⟩, ⟨rfl, rfl, rfl⟩, trivial⟩ (fun ext => TL.on rfl rfl rfl (decide_eq_false (by have := hu1 hjR hc1; omega)) <| TL.move hF rfl rfl TL.fin) ?_
              refine DR.stepV [_, _, _, _, _, _, _, _, _, _, _, _, _, _, _, _, _, _, _, _, _, _, _, _, _] rfl [(128, _, some 22), (129, _, some 23), (124, _, some 18)] rfl rfl ⟨⟨rfl, rfl, rfl⟩, ⟨rfl, rfl, rfl⟩, ⟨rfl, rfl, rfl⟩, trivial⟩ (fun ext => TL.on rfl rfl rfl (decide_eq_false (by have := hu1 hjR hc1; omega)) <| TL.indexAddr hF rfl rfl (hnA a haR) (by omega) (by omega) rfl TL.fin) ?_
              refine DR.stepV [_, _, _, _, _, _, _, _, _, _, _, _, _, _, _, _, _, _, _, _, _, _, _, _, _, _] rfl [(130, _, some 24), (124, _, some 18)] rfl rfl ⟨⟨rfl, rfl, rfl⟩, ⟨rfl, rfl, rfl⟩, trivial⟩ (fun ext => TL.on rfl rfl rfl (decide_eq_false (by have := hu1 hjR hc1; omega)) <| TL.load hF rfl (by rw [Int.toNat_natCast]; exact hnE a j haR hjR) rfl TL.fin) ?_
              refine DR.stepV [_, _, _, _, _, _, _, _, _, _, _, _, _, _, _, _, _, _, _, _, _, _, _, _, _, _, _] rfl [(131, _, some 25), (124, _, some 18)] rfl rfl ⟨⟨rfl, rfl, rfl⟩, ⟨rfl, rfl, rfl⟩, trivial⟩ (fun ext => TL.on rfl rfl rfl (decide_eq_false (by have := hu1 hjR hc1; omega)) <| TL.move hF rfl rfl TL.fin) ?_
              refine DR.stepV [_, _, _, _, _, _, _, _, _, _, _, _, _, _, _, _, _, _, _, _, _, _, _, _, _, _, _, _] rfl [(9, _, none), (132, _, some 26)] rfl rfl ⟨⟨rfl, by kernel_rfl⟩, ⟨rfl, rfl, rfl⟩, trivial⟩ (fun ext => TL.off hF rfl rfl rfl hc2 rfl TL.fin) ?_
              refine DR.stepV [_, _, _, _, _, _, _, _, _, _, _, _, _, _, _, _, _, _, _, _, _, _, _, _, _, _, _, _, _] rfl [(18, _, none), (132, _, some 26)] rfl rfl ⟨⟨rfl, by kernel_rfl⟩, ⟨rfl, rfl, rfl⟩, trivial⟩ (fun ext => TL.off hF rfl rfl rfl hc2 rfl TL.fin) ?_
              refine DR.stepV [_, _, _, _, _, _, _, _, _, _, _, _, _, _, _, _, _, _, _, _, _, _, _, _, _, _, _, _, _, _] rfl [(133, _, some 27), (134, _, some 28), (132, _, some 26)] rfl rfl ⟨⟨rfl, rfl, rfl⟩, ⟨rfl, rfl, rfl⟩, ⟨rfl, rfl, rfl⟩, trivial⟩ (fun ext => TL.off hF rfl rfl rfl hc2 rfl TL.fin) ?_
              refine DR.stepV [_, _, _, _, _, _, _, _, _, _, _, _, _, _, _, _, _, _, _, _, _, _, _, _, _, _, _, _, _, _, _] rfl [(135, _, some 29), (132, _, some 26)] rfl rfl ⟨⟨rfl, rfl, rfl⟩, ⟨rfl, rfl, rfl⟩, trivial⟩ (fun ext => TL.off hF rfl rfl rfl hc2 rfl TL.fin) ?_
              refine DR.stepV [_, _, _, _, _, _, _, _, _, _, _, _, _, _, _, _, _, _, _, _, _, _, _, _, _, _, _, _, _, _, _, _] rfl [(9, _, none), (132, _, some 26)] rfl rfl ⟨⟨rfl, by kernel_rfl⟩, ⟨rfl, rfl, rfl⟩, trivial⟩ (fun ext => TL.off hF rfl rfl rfl hc2 rfl TL.fin) ?_
              refine DR.stepV [_, _, _, _, _, _, _, _, _, _, _, _, _, _, _, _, _, _, _, _, _, _, _, _, _, _, _, _, _, _, _, _, _] rfl [(17, _, none), (132, _, some 26)] rfl rfl ⟨⟨rfl, by kernel_rfl⟩, ⟨rfl, rfl, rfl⟩, trivial⟩ (fun ext => TL.off hF rfl rfl rfl hc2 rfl TL.fin) ?_
              refine DR.stepV [_, _, _, _, _, _, _, _, _, _, _, _, _, _, _, _, _, _, _, _, _, _, _, _, _, _, _, _, _, _, _, _, _, _] rfl [(137, _, some 31), (138, _, some 32), (132, _, some 26)] rfl rfl ⟨⟨rfl, rfl, rfl⟩, ⟨rfl, rfl, rfl⟩, ⟨rfl, rfl, rfl⟩, trivial⟩ (fun ext => TL.off hF rfl rfl rfl hc2 rfl TL.fin) ?_
              refine DR.stepV [_, _, _, _, _, _, _, _, _, _, _, _, _, _, _, _, _, _, _, _, _, _, _, _, _, _, _, _, _, _, _, _, _, _, _] rfl [(139, _, some 33), (132, _, some 26)] rfl rfl ⟨⟨rfl, rfl, rfl⟩, ⟨rfl, rfl, rfl⟩, trivial⟩ (fun ext => TL.off hF rfl rfl rfl hc2 rfl TL.fin) ?_
              refine DR.done [(140, _), (139, _), (138, _), (137, _), (136, _), (135, _), (134, _), (133, _), (132, _), (131, _), (130, _), (129, _), (128, _), (127, _), (126, _), (125, _), (124, _), (123, _), (122, _), (121, _), (120, _), (119, _), (118, _), (117, _), (116, _), (115, _), (114, _), (113, _), (112, _), (111, _), (110, _), (109, _), (108, _), (107, _), (106, _)] [_, _, _] mixed (by kernel_rfl) (by kernel_rfl) (by kernel_rfl) rfl rfl ?_
              refine TL.off hF rfl rfl rfl hc2 rfl ?_
              refine TL.on rfl rfl rfl (decide_eq_false (by have := hu1 hjR hc1; omega)) ?_
              refine TL.pickF hF rfl hc2 rfl rfl ?_
              refine TL.pickF hF rfl (decide_eq_false (by have := hu1 hjR hc1; omega)) rfl rfl ?_
              refine TL.nil ?_
              refine TQ.then_n ?_
              refine T.cond_f rfl rfl ?_
              refine T.skip ?_
              refine TQ.then_n ?_
              refine T.seq ?_
              refine T.seq ?_
              refine T.region ?_
              refine TL.move hF rfl rfl ?_
              refine TL.move hF rfl rfl ?_
              refine TL.indexAddr hF rfl rfl ((htf a haR).1) (by omega) (by omega) rfl ?_
              refine TL.load hF rfl (by rw [Int.toNat_natCast]; exact (htf a haR).2.1) rfl ?_
              refine TL.move hF rfl rfl ?_
              refine TL.indexAddr hF rfl rfl (htA a haR) (by omega) (by omega) rfl ?_
              refine TL.load hF rfl (by rw [Int.toNat_natCast]; exact htE a j haR hjR) rfl ?_
              refine TL.move hF rfl rfl ?_
              refine TL.on rfl rfl rfl hc1 ?_
              refine TL.move hF rfl rfl ?_
              refine TL.on rfl rfl rfl hc1 ?_
              refine TL.move hF rfl rfl ?_
              refine TL.on rfl rfl rfl hc1 ?_
              refine TL.callV hF (WhereN_fn (xs := own) j hor (by omega)) rfl rfl ?_
              refine TL.on rfl rfl rfl hc1 ?_
              refine TL.bin hF rfl rfl rfl rfl ?_
              refine TL.on rfl rfl rfl hc1 ?_
              refine TL.not hF rfl rfl ?_
              refine TL.pickT hF rfl hc1 rfl rfl ?_
              refine TL.nil ?_
              refine TQ.then_n ?_
              refine T.cond _ rfl (fun ht157 => ?_) (fun ht157 => ?_)
              · refine T.region ?_
                refine TL.move hF rfl rfl ?_
                refine TL.move hF rfl rfl ?_
                refine TL.move hF rfl rfl ?_
                refine TL.indexAddr hF rfl rfl hLad (by omega) (by omega) rfl ?_
                refine TL.load hF rfl (v := .int .i64 (L j)) (by rw [Int.toNat_natCast]; exact hLat j (by omega)) rfl ?_
                refine TL.max2 hF rfl rfl rfl ?_
                refine TL.assign hF rfl rfl ?_
                refine TL.nil ?_
                refine TQ.then_n ?_
                refine T.seq ?_
                refine T.region ?_
                refine TL.move hF rfl rfl ?_
                refine TL.move hF rfl rfl ?_
                refine TL.indexAddr hF rfl rfl ((hnf a haR).1) (by omega) (by omega) rfl ?_
                refine TL.load hF rfl (by rw [Int.toNat_natCast]; exact (hnf a haR).2.1) rfl ?_
                refine TL.move hF rfl rfl ?_
                refine TL.indexAddr hF rfl rfl (hnA a haR) (by omega) (by omega) rfl ?_
                refine TL.load hF rfl (by rw [Int.toNat_natCast]; exact hnE a j haR hjR) rfl ?_
                refine TL.nil ?_
                refine TQ.then_n ?_
                refine T.cond_f rfl hc2 ?_
                refine T.skip ?_
                refine TQ.block_n ?_
                refine TQ.then_n ?_
                refine T.region ?_
                refine TL.add hF rfl rfl (by omega) (by omega) rfl ?_
                refine TL.move hF rfl rfl ?_
                refine TL.nil ?_
                have hin : j ∉ own := by
                  have h2 := where_in (xs := own) (b := j)
                  simp at ht157; exact fun h3 => by have := h2.2 h3; omega
                have e : needA (EU rs) (ED rs) own L a (needB (EU rs) (ED rs) R own L (own.take k)) (j + 1) = max (needA (EU rs) (ED rs) own L a (needB (EU rs) (ED rs) R own L (own.take k)) j) (L j) := by
                  rw [needA_succ]; unfold needS; simp [hc1, hc2, hin]
                refine TQ.round (j + 1) (by omega) (by omega) ⟨rfl, rfl, rfl, rfl, rfl, rfl, rfl, rfl, rfl, by rw [e]; rfl, rfl, rfl, rfl, rfl, rfl, rfl, trivial⟩ rfl
              · refine T.skip ?_
                refine TQ.then_n ?_
                refine T.seq ?_
                refine T.region ?_
                refine TL.move hF rfl rfl ?_
                refine TL.move hF rfl rfl ?_
                refine TL.indexAddr hF rfl rfl ((hnf a haR).1) (by omega) (by omega) rfl ?_
                refine TL.load hF rfl (by rw [Int.toNat_natCast]; exact (hnf a haR).2.1) rfl ?_
                refine TL.move hF rfl rfl ?_
                refine TL.indexAddr hF rfl rfl (hnA a haR) (by omega) (by omega) rfl ?_
                refine TL.load hF rfl (by rw [Int.toNat_natCast]; exact hnE a j haR hjR) rfl ?_
                refine TL.nil ?_
                refine TQ.then_n ?_
                refine T.cond_f rfl hc2 ?_
                refine T.skip ?_
                refine TQ.block_n ?_
                refine TQ.then_n ?_
                refine T.region ?_
                refine TL.add hF rfl rfl (by omega) (by omega) rfl ?_
                refine TL.move hF rfl rfl ?_
                refine TL.nil ?_
                have hin : j ∈ own := by
                  have h2 := where_in (xs := own) (b := j)
                  simp at ht157; exact h2.1 ht157
                have e : needA (EU rs) (ED rs) own L a (needB (EU rs) (ED rs) R own L (own.take k)) (j + 1) = needA (EU rs) (ED rs) own L a (needB (EU rs) (ED rs) R own L (own.take k)) j := by
                  rw [needA_succ]; unfold needS; simp [hc1, hc2, hin]
                refine TQ.round (j + 1) (by omega) (by omega) ⟨rfl, rfl, rfl, rfl, rfl, rfl, rfl, rfl, rfl, by rw [e]; rfl, rfl, rfl, rfl, rfl, rfl, rfl, trivial⟩ rfl
            · have hjR : j < R := by have h : (j : Int) < R := ht104; omega
              refine T.draw ?_
              refine DR.stepV [_] rfl [(11, _, none)] rfl rfl ⟨⟨rfl, by kernel_rfl⟩, trivial⟩ (fun ext => TL.move hF rfl rfl TL.fin) ?_
              refine DR.stepV [_, _] rfl [(17, _, none)] rfl rfl ⟨⟨rfl, by kernel_rfl⟩, trivial⟩ (fun ext => TL.move hF rfl rfl TL.fin) ?_
              refine DR.stepV [_, _, _] rfl [(106, _, some 0), (107, _, some 1)] rfl rfl ⟨⟨rfl, rfl, rfl⟩, ⟨rfl, rfl, rfl⟩, trivial⟩ (fun ext => TL.indexAddr hF rfl rfl ((htf a haR).1) (by omega) (by omega) rfl TL.fin) ?_
              refine DR.stepV [_, _, _, _] rfl [(108, _, some 2)] rfl rfl ⟨⟨rfl, rfl, rfl⟩, trivial⟩ (fun ext => TL.load hF rfl (by rw [Int.toNat_natCast]; exact (htf a haR).2.1) rfl TL.fin) ?_
              refine DR.stepV [_, _, _, _, _] rfl [(18, _, none)] rfl rfl ⟨⟨rfl, by kernel_rfl⟩, trivial⟩ (fun ext => TL.move hF rfl rfl TL.fin) ?_
              refine DR.stepV [_, _, _, _, _, _] rfl [(109, _, some 3), (110, _, some 4)] rfl rfl ⟨⟨rfl, rfl, rfl⟩, ⟨rfl, rfl, rfl⟩, trivial⟩ (fun ext => TL.indexAddr hF rfl rfl (htA a haR) (by omega) (by omega) rfl TL.fin) ?_
              refine DR.stepV [_, _, _, _, _, _, _] rfl [(111, _, some 5)] rfl rfl ⟨⟨rfl, rfl, rfl⟩, trivial⟩ (fun ext => TL.load hF rfl (by rw [Int.toNat_natCast]; exact htE a j haR hjR) rfl TL.fin) ?_
              refine DR.stepV [_, _, _, _, _, _, _, _] rfl [(112, _, some 6)] rfl rfl ⟨⟨rfl, rfl, rfl⟩, trivial⟩ (fun ext => TL.move hF rfl rfl TL.fin) ?_
              refine DR.stepV [_, _, _, _, _, _, _, _, _] rfl [(9, _, none), (113, _, some 7)] rfl rfl ⟨⟨rfl, by kernel_rfl⟩, ⟨rfl, rfl, rfl⟩, trivial⟩ (fun ext => TL.off hF rfl rfl rfl hc1 rfl TL.fin) ?_
              refine DR.stepV [_, _, _, _, _, _, _, _, _, _] rfl [(18, _, none), (113, _, some 7)] rfl rfl ⟨⟨rfl, by kernel_rfl⟩, ⟨rfl, rfl, rfl⟩, trivial⟩ (fun ext => TL.off hF rfl rfl rfl hc1 rfl TL.fin) ?_
              refine DR.stepV [_, _, _, _, _, _, _, _, _, _, _] rfl [(114, _, some 8), (115, _, some 9), (113, _, some 7)] rfl rfl ⟨⟨rfl, rfl, rfl⟩, ⟨rfl, rfl, rfl⟩, ⟨rfl, rfl, rfl⟩, trivial⟩ (fun ext => TL.off hF rfl rfl rfl hc1 rfl TL.fin) ?_
              refine DR.stepV [_, _, _, _, _, _, _, _, _, _, _, _] rfl [(116, _, some 10), (113, _, some 7)] rfl rfl ⟨⟨rfl, rfl, rfl⟩, ⟨rfl, rfl, rfl⟩, trivial⟩ (fun ext => TL.off hF rfl rfl rfl hc1 rfl TL.fin) ?_
              refine DR.stepV [_, _, _, _, _, _, _, _, _, _, _, _, _] rfl [(9, _, none), (113, _, some 7)] rfl rfl ⟨⟨rfl, by kernel_rfl⟩, ⟨rfl, rfl, rfl⟩, trivial⟩ (fun ext => TL.off hF rfl rfl rfl hc1 rfl TL.fin) ?_
              refine DR.stepV [_, _, _, _, _, _, _, _, _, _, _, _, _, _] rfl [(17, _, none), (113, _, some 7)] rfl rfl ⟨⟨rfl, by kernel_rfl⟩, ⟨rfl, rfl, rfl⟩, trivial⟩ (fun ext => TL.off hF rfl rfl rfl hc1 rfl TL.fin) ?_
              refine DR.stepV [_, _, _, _, _, _, _, _, _, _, _, _, _, _, _] rfl [(118, _, some 12), (119, _, some 13), (113, _, some 7)] rfl rfl ⟨⟨rfl, rfl, rfl⟩, ⟨rfl, rfl, rfl⟩, ⟨rfl, rfl, rfl⟩, trivial⟩ (fun ext => TL.off hF rfl rfl rfl hc1 rfl TL.fin) ?_
              refine DR.stepV [_, _, _, _, _, _, _, _, _, _, _, _, _, _, _, _] rfl [(120, _, some 14), (113, _, some 7)] rfl rfl ⟨⟨rfl, rfl, rfl⟩, ⟨rfl, rfl, rfl⟩, trivial⟩ (fun ext => TL.off hF rfl rfl rfl hc1 rfl TL.fin) ?_
              refine DR.stepV [_, _, _, _, _, _, _, _, _, _, _, _, _, _, _, _, _] rfl [(117, _, some 11), (121, _, some 15), (113, _, some 7)] rfl rfl ⟨⟨rfl, rfl, rfl⟩, ⟨rfl, rfl, rfl⟩, ⟨rfl, rfl, rfl⟩, trivial⟩ (fun ext => TL.off hF rfl rfl rfl hc1 rfl TL.fin) ?_
              refine DR.stepV [_, _, _, _, _, _, _, _, _, _, _, _, _, _, _, _, _, _] rfl [(113, _, some 7), (122, _, some 16)] rfl rfl ⟨⟨rfl, rfl, rfl⟩, ⟨rfl, rfl, rfl⟩, trivial⟩ (fun ext => TL.pickF hF rfl hc1 rfl rfl TL.fin) ?_
              refine DR.stepV [_, _, _, _, _, _, _, _, _, _, _, _, _, _, _, _, _, _, _] rfl [(123, _, some 17)] rfl rfl ⟨⟨rfl, rfl, rfl⟩, trivial⟩ (fun ext => TL.move hF rfl rfl TL.fin) ?_
              refine DR.stepV [_, _, _, _, _, _, _, _, _, _, _, _, _, _, _, _, _, _, _, _] rfl [(12, _, none), (124, _, some 18)] rfl rfl ⟨⟨rfl, by kernel_rfl⟩, ⟨rfl, rfl, rfl⟩, trivial⟩ (fun ext => TL.on rfl rfl rfl rfl <| TL.move hF rfl rfl TL.fin) ?_
              refine DR.stepV [_, _, _, _, _, _, _, _, _, _, _, _, _, _, _, _, _, _, _, _, _] rfl [(17, _, none), (124, _, some 18)] rfl rfl ⟨⟨rfl, by kernel_rfl⟩, ⟨rfl, rfl, rfl⟩, trivial⟩ (fun ext => TL.on rfl rfl rfl rfl <| TL.move hF rfl rfl TL.fin) ?_
              refine DR.stepV [_, _, _, _, _, _, _, _, _, _, _, _, _, _, _, _, _, _, _, _, _, _] rfl [(125, _, some 19), (126, _, some 20), (124, _, some 18)] rfl rfl ⟨⟨rfl, rfl, rfl⟩, ⟨rfl, rfl, rfl⟩, ⟨rfl, rfl, rfl⟩, trivial⟩ (fun ext => TL.on rfl rfl rfl rfl <| TL.indexAddr hF rfl rfl ((hnf a haR).1) (by omega) (by omega) rfl TL.fin) ?_
              refine DR.stepV [_, _, _, _, _, _, _, _, _, _, _, _, _, _, _, _, _, _, _, _, _, _, _] rfl [(127, _, some 21), (124, _, some 18)] rfl rfl ⟨⟨rfl, rfl, rfl⟩, ⟨rfl, rfl, rfl⟩, trivial⟩ (fun ext => TL.on rfl rfl rfl rfl <| TL.load hF rfl (by rw [Int.toNat_natCast]; exact (hnf a haR).2.1) rfl TL.fin) ?_
              refine DR.stepV [_, _, _, _, _, _, _, _, _, _, _, _, _, _, _, _, _, _, _, _, _, _, _, _] rfl [(18, _, none), (124, _, some 18)] rfl rfl ⟨⟨rfl, by kernel_rfl⟩, ⟨rfl, rfl, rfl⟩, trivial⟩ (fun ext => TL.on rfl rfl rfl rfl <| TL.move hF rfl rfl TL.fin) ?_
              refine DR.stepV [_, _, _, _, _, _, _, _, _, _, _, _, _, _, _, _, _, _, _, _, _, _, _, _, _] rfl [(128, _, some 22), (129, _, some 23), (124, _, some 18)] rfl rfl ⟨⟨rfl, rfl, rfl⟩, ⟨rfl, rfl, rfl⟩, ⟨rfl, rfl, rfl⟩, trivial⟩ (fun ext => TL.on rfl rfl rfl rfl <| TL.indexAddr hF rfl rfl (hnA a haR) (by omega) (by omega) rfl TL.fin) ?_
              refine DR.stepV [_, _, _, _, _, _, _, _, _, _, _, _, _, _, _, _, _, _, _, _, _, _, _, _, _, _] rfl [(130, _, some 24), (124, _, some 18)] rfl rfl ⟨⟨rfl, rfl, rfl⟩, ⟨rfl, rfl, rfl⟩, trivial⟩ (fun ext => TL.on rfl rfl rfl rfl <| TL.load hF rfl (by rw [Int.toNat_natCast]; exact hnE a j haR hjR) rfl TL.fin) ?_
              refine DR.stepV [_, _, _, _, _, _, _, _, _, _, _, _, _, _, _, _, _, _, _, _, _, _, _, _, _, _, _] rfl [(131, _, some 25), (124, _, some 18)] rfl rfl ⟨⟨rfl, rfl, rfl⟩, ⟨rfl, rfl, rfl⟩, trivial⟩ (fun ext => TL.on rfl rfl rfl rfl <| TL.move hF rfl rfl TL.fin) ?_
              refine DR.stepV [_, _, _, _, _, _, _, _, _, _, _, _, _, _, _, _, _, _, _, _, _, _, _, _, _, _, _, _] rfl [(9, _, none), (132, _, some 26)] rfl rfl ⟨⟨rfl, by kernel_rfl⟩, ⟨rfl, rfl, rfl⟩, trivial⟩ (fun ext => TL.off hF rfl rfl rfl hc2 rfl TL.fin) ?_
              refine DR.stepV [_, _, _, _, _, _, _, _, _, _, _, _, _, _, _, _, _, _, _, _, _, _, _, _, _, _, _, _, _] rfl [(18, _, none), (132, _, some 26)] rfl rfl ⟨⟨rfl, by kernel_rfl⟩, ⟨rfl, rfl, rfl⟩, trivial⟩ (fun ext => TL.off hF rfl rfl rfl hc2 rfl TL.fin) ?_
              refine DR.stepV [_, _, _, _, _, _, _, _, _, _, _, _, _, _, _, _, _, _, _, _, _, _, _, _, _, _, _, _, _, _] rfl [(133, _, some 27), (134, _, some 28), (132, _, some 26)] rfl rfl ⟨⟨rfl, rfl, rfl⟩, ⟨rfl, rfl, rfl⟩, ⟨rfl, rfl, rfl⟩, trivial⟩ (fun ext => TL.off hF rfl rfl rfl hc2 rfl TL.fin) ?_
              refine DR.stepV [_, _, _, _, _, _, _, _, _, _, _, _, _, _, _, _, _, _, _, _, _, _, _, _, _, _, _, _, _, _, _] rfl [(135, _, some 29), (132, _, some 26)] rfl rfl ⟨⟨rfl, rfl, rfl⟩, ⟨rfl, rfl, rfl⟩, trivial⟩ (fun ext => TL.off hF rfl rfl rfl hc2 rfl TL.fin) ?_
              refine DR.stepV [_, _, _, _, _, _, _, _, _, _, _, _, _, _, _, _, _, _, _, _, _, _, _, _, _, _, _, _, _, _, _, _] rfl [(9, _, none), (132, _, some 26)] rfl rfl ⟨⟨rfl, by kernel_rfl⟩, ⟨rfl, rfl, rfl⟩, trivial⟩ (fun ext => TL.off hF rfl rfl rfl hc2 rfl TL.fin) ?_
              refine DR.stepV [_, _, _, _, _, _, _, _, _, _, _, _, _, _, _, _, _, _, _, _, _, _, _, _, _, _, _, _, _, _, _, _, _] rfl [(17, _, none), (132, _, some 26)] rfl rfl ⟨⟨rfl, by kernel_rfl⟩, ⟨rfl, rfl, rfl⟩, trivial⟩ (fun ext => TL.off hF rfl rfl rfl hc2 rfl TL.fin) ?_
              refine DR.stepV [_, _, _, _, _, _, _, _, _, _, _, _, _, _, _, _, _, _, _, _, _, _, _, _, _, _, _, _, _, _, _, _, _, _] rfl [(137, _, some 31), (138, _, some 32), (132, _, some 26)] rfl rfl ⟨⟨rfl, rfl, rfl⟩, ⟨rfl, rfl, rfl⟩, ⟨rfl, rfl, rfl⟩, trivial⟩ (fun ext => TL.off hF rfl rfl rfl hc2 rfl TL.fin) ?_
              refine DR.stepV [_, _, _, _, _, _, _, _, _, _, _, _, _, _, _, _, _, _, _, _, _, _, _, _, _, _, _, _, _, _, _, _, _, _, _] rfl [(139, _, some 33), (132, _, some 26)] rfl rfl ⟨⟨rfl, rfl, rfl⟩, ⟨rfl, rfl, rfl⟩, trivial⟩ (fun ext => TL.off hF rfl rfl rfl hc2 rfl TL.fin) ?_
              refine DR.done [(140, _), (139, _), (138, _), (137, _), (136, _), (135, _), (134, _), (133, _), (132, _), (131, _), (130, _), (129, _), (128, _), (127, _), (126, _), (125, _), (124, _), (123, _), (122, _), (121, _), (120, _), (119, _), (118, _), (117, _), (116, _), (115, _), (114, _), (113, _), (112, _), (111, _), (110, _), (109, _), (108, _), (107, _), (106, _)] [_, _, _] mixed (by kernel_rfl) (by kernel_rfl) (by kernel_rfl) rfl rfl ?_
              refine TL.off hF rfl rfl rfl hc2 rfl ?_
              refine TL.on rfl rfl rfl rfl ?_
              refine TL.pickF hF rfl hc2 rfl rfl ?_
              refine TL.pickF hF rfl rfl rfl rfl ?_
              refine TL.nil ?_
              refine TQ.then_n ?_
              refine T.cond_f rfl rfl ?_
              refine T.skip ?_
              refine TQ.then_n ?_
              refine T.seq ?_
              refine T.seq ?_
              refine T.region ?_
              refine TL.move hF rfl rfl ?_
              refine TL.move hF rfl rfl ?_
              refine TL.indexAddr hF rfl rfl ((htf a haR).1) (by omega) (by omega) rfl ?_
              refine TL.load hF rfl (by rw [Int.toNat_natCast]; exact (htf a haR).2.1) rfl ?_
              refine TL.move hF rfl rfl ?_
              refine TL.indexAddr hF rfl rfl (htA a haR) (by omega) (by omega) rfl ?_
              refine TL.load hF rfl (by rw [Int.toNat_natCast]; exact htE a j haR hjR) rfl ?_
              refine TL.move hF rfl rfl ?_
              refine TL.off hF rfl rfl rfl hc1 rfl ?_
              refine TL.off hF rfl rfl rfl hc1 rfl ?_
              refine TL.off hF rfl rfl rfl hc1 rfl ?_
              refine TL.off hF rfl rfl rfl hc1 rfl ?_
              refine TL.off hF rfl rfl rfl hc1 rfl ?_
              refine TL.pickF hF rfl hc1 rfl rfl ?_
              refine TL.nil ?_
              refine TQ.then_n ?_
              refine T.cond_f rfl rfl ?_
              refine T.skip ?_
              refine TQ.then_n ?_
              refine T.seq ?_
              refine T.region ?_
              refine TL.move hF rfl rfl ?_
              refine TL.move hF rfl rfl ?_
              refine TL.indexAddr hF rfl rfl ((hnf a haR).1) (by omega) (by omega) rfl ?_
              refine TL.load hF rfl (by rw [Int.toNat_natCast]; exact (hnf a haR).2.1) rfl ?_
              refine TL.move hF rfl rfl ?_
              refine TL.indexAddr hF rfl rfl (hnA a haR) (by omega) (by omega) rfl ?_
              refine TL.load hF rfl (by rw [Int.toNat_natCast]; exact hnE a j haR hjR) rfl ?_
              refine TL.nil ?_
              refine TQ.then_n ?_
              refine T.cond_f rfl hc2 ?_
              refine T.skip ?_
              refine TQ.block_n ?_
              refine TQ.then_n ?_
              refine T.region ?_
              refine TL.add hF rfl rfl (by omega) (by omega) rfl ?_
              refine TL.move hF rfl rfl ?_
              refine TL.nil ?_
              have e : needA (EU rs) (ED rs) own L a (needB (EU rs) (ED rs) R own L (own.take k)) (j + 1) = needA (EU rs) (ED rs) own L a (needB (EU rs) (ED rs) R own L (own.take k)) j := by
                rw [needA_succ]; unfold needS; simp [hc1, hc2]
              refine TQ.round (j + 1) (by omega) (by omega) ⟨rfl, rfl, rfl, rfl, rfl, rfl, rfl, rfl, rfl, by rw [e]; rfl, rfl, rfl, rfl, rfl, rfl, rfl, trivial⟩ rfl
          · refine T.exit ?_
            refine TQ.then_x ?_
            refine TQ.then_x ?_
            refine TQ.block_x ?_
            refine TQ.block_n ?_
            refine TQ.then_n ?_
            refine T.region ?_
            refine TL.add hF rfl rfl (by omega) (by omega) rfl ?_
            refine TL.move hF rfl rfl ?_
            refine TL.nil ?_
            have hjR : j = R := by have h : ¬ (j : Int) < R := ht104; omega
            have e : needB (EU rs) (ED rs) R own L (own.take (k + 1)) = needA (EU rs) (ED rs) own L a (needB (EU rs) (ED rs) R own L (own.take k)) j := by
              rw [List.take_succ_eq_append_getElem hkl, ← ha, hnb, hjR]
            refine TQ.round (k + 1) (by omega) (by omega) ⟨rfl, rfl, rfl, rfl, rfl, rfl, rfl, rfl, rfl, by rw [e]; rfl, rfl, rfl, rfl, trivial⟩ rfl
        · refine T.exit ?_
          refine TQ.then_x ?_
          refine TQ.then_x ?_
          refine TQ.block_x ?_
          refine TQ.then_n ?_
          refine T.seq ?_
          refine T.region ?_
          refine TL.move hF rfl rfl ?_
          refine TL.len hF rfl rfl ?_
          refine TL.bin hF rfl rfl rfl rfl ?_
          refine TL.move hF rfl rfl ?_
          refine TL.on rfl rfl rfl (decide_eq_false (by have := hlk.ne own hmem; omega)) ?_
          have hne := hlk.ne own hmem
          obtain ⟨a0, ha0⟩ : ∃ a0, a0 = own[0] := ⟨_, rfl⟩
          have ha0o : a0 ∈ own := by rw [ha0]; exact List.getElem_mem _
          have ha0R := hlk.lt own hmem a0 ha0o
          have hfin : L a0 = needB (EU rs) (ED rs) R own L (own.take k) := by
            have hkl : k = own.length := by have h : ¬ (k : Int) < own.length := ht78; omega
            rw [hkl, List.take_length]; exact hlk.need own hmem a0 ha0o
          refine TL.move hF rfl rfl ?_
          refine TL.on rfl rfl rfl (decide_eq_false (by have := hlk.ne own hmem; omega)) ?_
          refine TL.move hF rfl rfl ?_
          refine TL.on rfl rfl rfl (decide_eq_false (by have := hlk.ne own hmem; omega)) ?_
          refine TL.indexAddr hF rfl rfl (hor.nad (i := 0) (by omega)) (by omega) (by omega) rfl ?_
          refine TL.on rfl rfl rfl (decide_eq_false (by have := hlk.ne own hmem; omega)) ?_
          refine TL.load hF rfl (v := .int .i64 (a0 : Int)) (by rw [ha0]; exact hor.nat (i := 0) (by omega)) rfl ?_
          refine TL.on rfl rfl rfl (decide_eq_false (by have := hlk.ne own hmem; omega)) ?_
          refine TL.indexAddr hF rfl rfl hLad (by omega) (by omega) rfl ?_
          refine TL.on rfl rfl rfl (decide_eq_false (by have := hlk.ne own hmem; omega)) ?_
          refine TL.load hF rfl (v := .int .i64 (L a0)) (by rw [Int.toNat_natCast]; exact hLat a0 (by omega)) rfl ?_
          refine TL.on rfl rfl rfl (decide_eq_false (by have := hlk.ne own hmem; omega)) ?_
          refine TL.move hF rfl rfl ?_
          refine TL.on rfl rfl rfl (decide_eq_false (by have := hlk.ne own hmem; omega)) ?_
          refine TL.bin hF rfl rfl rfl rfl ?_
          refine TL.pickF hF rfl (decide_eq_false (by have := hlk.ne own hmem; omega)) rfl rfl ?_
          refine TL.nil ?_
          refine TQ.then_n ?_
          refine T.cond_f rfl (decide_eq_false (by rw [hfin]; simp)) ?_
          refine T.skip ?_
          refine TQ.block_n ?_
          refine TQ.then_n ?_
          refine T.region ?_
          refine TL.add hF rfl rfl (by omega) (by omega) rfl ?_
          refine TL.move hF rfl rfl ?_
          refine TL.nil ?_
          exact TQ.round (i + 1) (by omega) (by omega) ⟨rfl, rfl, rfl, rfl, rfl, rfl, rfl, rfl, trivial⟩ rfl
      · refine T.exit ?_
        refine TQ.then_x ?_
        refine TQ.then_x ?_
        refine TQ.block_x ?_
        refine TQ.then_n ?_
        refine T.seq ?_
        refine T.region ?_
        refine TL.call hF awake_fn rfl rfl ?_
        rintro _ _ rfl
        refine TL.assign hF rfl rfl ?_
        refine TL.nil ?_
        refine TQ.then_n ?_
        refine T.ret ?_
        exact TQ.retsF [4] _ hb rfl rfl rfl (fun _ => rfl)
end Go.Proofs.Ytdehpaikapbckaa
namespace Go.Proofs.Ytdehpaikapbckaa
open Go.Sl Go.ChangeShapes Go.WideShapes Go.ChangeAt Go.RowKit 
set_option maxRecDepth 100000 in
theorem stratLevels_lifted (os : Os) (started : os.Started) (H : Type) (enc : TypeId × Value → H) :
    ReturnsInHanded {} Try.checked os 6 .any (Rows.stratLevelsSpec.pre6 enc Try.prog Try.f6 Rows.stratLevelsRow.domain false) (Rows.stratLevelsSpec.post enc Try.prog Try.f6 false true false false) := by
  refine returnsInHanded_of_change (C := Try.checked) Try.own started (by kernel_rfl) Try.func6
    (ChangeSpec.witness6 (enc := enc) (C := Try.checked) false ⟨#[], #[.int .u8 0, .slice none 0 0], []⟩ 8 (by kernel_rfl) (by kernel_rfl) (by kernel_rfl) (by kernel_rfl)) ?_
  intro W base args ds gs before hval hW hcnd _
  have hW' := hW
  obtain ⟨p, q, hA0, hV, rfl, hfz, hnd⟩ := hW
  have hA : DataW.TrodAll enc Try.prog W 0 (fun _ => true) true [5, 36] args.toList ds p := hA0
  have hval' : ∀ (j : Nat) t v, (#[5, 36] : Array TypeId)[j]? = some t → args[j]? = some v → Value.okWide Try.prog W .any base t v := hval
  obtain ⟨v0, v1, d0, d1, p0, p1, rfl, rfl, rfl, h0, h1⟩ := trodAll_two hA
  obtain ⟨z, rfl, _, _, wz⟩ := open_int u5 (hval' 0 5 v0 rfl rfl) h0
  obtain ⟨hz0, hz1⟩ := wf_u8 wz
  obtain ⟨m, rfl⟩ : ∃ m : Nat, z = (m : Int) := ⟨z.toNat, by omega⟩
  obtain ⟨_, _, _, rfl⟩ := okWide_slice u36 (hval' 1 36 v1 rfl rfl)
  obtain ⟨_, h1⟩ := h1
  obtain ⟨a1, xs, c1, e1, hc1, hl1, hx1, hb1⟩ := nats_read 65536 b16 u36 u96 k96 h1
  rw [e1] at hW' ⊢
  refine (calls_true (StratLevels_fn (by omega) hx1 hc1 hb1 hl1)).mono fun e W' ⟨he, hw⟩ => ⟨_, he, ?_⟩
  exact law_post (f := Try.f6) Try.laidOut rfl 4 rfl u4 hW' rfl (by decide +kernel) hw
theorem stratLevels_holds : Rows.StratLevelsSaid :=
  OpenClaim.holds_of_wide 6 Try.f6 rfl rfl rfl rfl rfl rfl rfl ⟨rfl, rfl, rfl, rfl, rfl⟩ rfl rfl rfl rfl rfl (by kernel_rfl) Try.func6 (by kernel_rfl)
    (of_decide_eq_true (by kernel_rfl)) (by unfold Func.isWrapper; first | (rw [if_pos (by decide +kernel)]; kernel_rfl) | (rw [if_neg (by decide +kernel)]; exact ⟨rfl, rfl⟩))
    (fun os started H enc _ => stratLevels_lifted os started H enc)
end Go.Proofs.Ytdehpaikapbckaa
