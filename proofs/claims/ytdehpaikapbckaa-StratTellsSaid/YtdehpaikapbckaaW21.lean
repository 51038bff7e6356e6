/- A list of one number again and again, and how far relations are, by the program. -/
import Derived.Test.YtdehpaikapbckaaW20
import Derived.Test.YtdehpaikapbckaaBase13
namespace Go.Proofs.Ytdehpaikapbckaa
open Go.Sl
variable {S : Nat → Prop} {w0 : World} {η : Heap}
theorem hmask (a : Nat) (h : a < 4294967296) : a &&& 4294967295 = a := by
  rw [show 4294967295 = 2 ^ 32 - 1 from rfl, Nat.and_two_pow_sub_one_eq_mod]; exact Nat.mod_eq_of_lt h
theorem wrap0 : IntKind.u64.wrap 0 = 0 := by decide

set_option maxHeartbeats 2000000 in
theorem Mul64_fn (n : Nat) (hn : n ≤ 1000) :
    Rt Try.prog 72 [.int .u64 ((1 : Nat) : Int), .int .u64 (n : Int)].toArray S w0 η (fun v η' => v = .tuple #[.int .u64 0, .int .u64 (n : Int)] ∧ η' = η) := by
  have hF := open_wide
  refine Rt.of (fn := Try.f72) Try.func72 rfl rfl ?_
  refine T.seq ?_
  refine T.region ?_
  refine TL.assign hF rfl rfl ?_
  refine TL.assign hF rfl rfl ?_
  refine TL.nil ?_
  refine TQ.then_n ?_
  refine T.seq ?_
  refine T.region ?_
  refine TL.move hF rfl rfl ?_
  refine TL.andN hF (a := 1) (m := 4294967295) rfl rfl rfl (by show _ < 2 ^ 64; omega) (by decide) rfl ?_
  rw [show (1 &&& 4294967295 : Nat) = 1 from hmask _ (by omega)]
  refine TL.assign hF rfl rfl ?_
  refine TL.nil ?_
  refine TQ.then_n ?_
  refine T.seq ?_
  refine T.region ?_
  refine TL.move hF rfl rfl ?_
  refine TL.shrN hF (a := 1) (s := 32) rfl rfl (by decide) rfl ?_
  rw [show (1 / 2 ^ 32 : Nat) = 0 from Nat.div_eq_of_lt (by omega)]
  refine TL.assign hF rfl rfl ?_
  refine TL.nil ?_
  refine TQ.then_n ?_
  refine T.seq ?_
  refine T.region ?_
  refine TL.move hF rfl rfl ?_
  refine TL.andN hF (a := n) (m := 4294967295) rfl rfl rfl (by show _ < 2 ^ 64; omega) (by decide) rfl ?_
  rw [show (n &&& 4294967295 : Nat) = n from hmask _ (by omega)]
  refine TL.assign hF rfl rfl ?_
  refine TL.nil ?_
  refine TQ.then_n ?_
  refine T.seq ?_
  refine T.region ?_
  refine TL.move hF rfl rfl ?_
  refine TL.shrN hF (a := n) (s := 32) rfl rfl (by decide) rfl ?_
  rw [show (n / 2 ^ 32 : Nat) = 0 from Nat.div_eq_of_lt (by omega)]
  refine TL.assign hF rfl rfl ?_
  refine TL.nil ?_
  refine TQ.then_n ?_
  refine T.seq ?_
  refine T.region ?_
  refine TL.move hF rfl rfl ?_
  refine TL.move hF rfl rfl ?_
  refine TL.mulK hF (r := (n : Int)) rfl rfl (by first | (simp; done) | (simp; exact wrap_u64 (by omega) (by omega))) rfl ?_
  refine TL.assign hF rfl rfl ?_
  refine TL.nil ?_
  refine TQ.then_n ?_
  refine T.seq ?_
  refine T.region ?_
  refine TL.move hF rfl rfl ?_
  refine TL.move hF rfl rfl ?_
  refine TL.mulK hF (r := 0) rfl rfl (by first | (simp; done) | (simp; exact wrap_u64 (by omega) (by omega))) rfl ?_
  refine TL.move hF rfl rfl ?_
  refine TL.shrN hF (a := n) (s := 32) rfl rfl (by decide) rfl ?_
  rw [show (n / 2 ^ 32 : Nat) = 0 from Nat.div_eq_of_lt (by omega)]
  refine TL.addK hF (r := ((0 : Nat) : Int)) rfl rfl (by first | (simp; done) | (simp; exact wrap_u64 (by omega) (by omega))) rfl ?_
  refine TL.assign hF rfl rfl ?_
  refine TL.nil ?_
  refine TQ.then_n ?_
  refine T.seq ?_
  refine T.region ?_
  refine TL.move hF rfl rfl ?_
  refine TL.andN hF (a := 0) (m := 4294967295) rfl rfl rfl (by show _ < 2 ^ 64; omega) (by decide) rfl ?_
  rw [show (0 &&& 4294967295 : Nat) = 0 from hmask _ (by omega)]
  refine TL.assign hF rfl rfl ?_
  refine TL.nil ?_
  refine TQ.then_n ?_
  refine T.seq ?_
  refine T.region ?_
  refine TL.move hF rfl rfl ?_
  refine TL.shrN hF (a := 0) (s := 32) rfl rfl (by decide) rfl ?_
  rw [show (0 / 2 ^ 32 : Nat) = 0 from Nat.div_eq_of_lt (by omega)]
  refine TL.assign hF rfl rfl ?_
  refine TL.nil ?_
  refine TQ.then_n ?_
  refine T.seq ?_
  refine T.region ?_
  refine TL.move hF rfl rfl ?_
  refine TL.move hF rfl rfl ?_
  refine TL.move hF rfl rfl ?_
  refine TL.mulK hF (r := 0) rfl rfl (by first | (simp; done) | (simp; exact wrap_u64 (by omega) (by omega))) rfl ?_
  refine TL.addK hF (r := ((0 : Nat) : Int)) rfl rfl (by first | (simp; done) | (simp; exact wrap_u64 (by omega) (by omega))) rfl ?_
  refine TL.assign hF rfl rfl ?_
  refine TL.nil ?_
  refine TQ.then_n ?_
  refine T.seq ?_
  refine T.region ?_
  refine TL.move hF rfl rfl ?_
  refine TL.move hF rfl rfl ?_
  refine TL.mulK hF (r := 0) rfl rfl (by first | (simp; done) | (simp; exact wrap_u64 (by omega) (by omega))) rfl ?_
  refine TL.move hF rfl rfl ?_
  refine TL.addK hF (r := 0) rfl rfl (by first | (simp; done) | (simp; exact wrap_u64 (by omega) (by omega))) rfl ?_
  refine TL.move hF rfl rfl ?_
  refine TL.shrN hF (a := 0) (s := 32) rfl rfl (by decide) rfl ?_
  rw [show (0 / 2 ^ 32 : Nat) = 0 from Nat.div_eq_of_lt (by omega)]
  refine TL.addK hF (r := 0) rfl rfl (by first | (simp; done) | (simp; exact wrap_u64 (by omega) (by omega))) rfl ?_
  refine TL.assign hF rfl rfl ?_
  refine TL.nil ?_
  refine TQ.then_n ?_
  refine T.seq ?_
  refine T.region ?_
  refine TL.move hF rfl rfl ?_
  refine TL.move hF rfl rfl ?_
  refine TL.mulK hF (r := (n : Int)) rfl rfl (by first | (simp; done) | (simp; exact wrap_u64 (by omega) (by omega))) rfl ?_
  refine TL.assign hF rfl rfl ?_
  refine TL.nil ?_
  refine TQ.then_n ?_
  refine T.ret ?_
  refine TQ.rets [4, 5] _ rfl rfl rfl ?_
  exact ⟨rfl, rfl⟩
set_option maxHeartbeats 2000000 in
theorem Mul_fn (n : Nat) (hn : n ≤ 1000) :
    Rt Try.prog 70 [.int .u64 ((1 : Nat) : Int), .int .u64 (n : Int)].toArray S w0 η (fun v η' => v = .tuple #[.int .u64 0, .int .u64 (n : Int)] ∧ η' = η) := by
  have hF := open_wide
  refine Rt.of (fn := Try.f70) Try.func70 rfl rfl ?_
  refine T.seq ?_
  refine T.region ?_
  refine TL.assign hF rfl rfl ?_
  refine TL.assign hF rfl rfl ?_
  refine TL.nil ?_
  refine TQ.then_n ?_
  refine T.seq ?_
  refine T.cond_f rfl rfl ?_
  refine T.skip ?_
  refine TQ.then_n ?_
  refine T.seq ?_
  refine T.region ?_
  refine TL.move hF rfl rfl ?_
  refine TL.move hF rfl rfl ?_
  refine TL.callV hF (Mul64_fn n hn) rfl rfl ?_
  refine TL.move hF rfl rfl ?_
  refine TL.extract hF rfl rfl rfl ?_
  refine TL.extract hF rfl rfl rfl ?_
  refine TL.assign hF rfl rfl ?_
  refine TL.assign hF rfl rfl ?_
  refine TL.nil ?_
  refine TQ.then_n ?_
  refine T.seq ?_
  refine T.region ?_
  refine TL.move hF rfl rfl ?_
  refine TL.move hF rfl rfl ?_
  refine TL.assign hF rfl rfl ?_
  refine TL.assign hF rfl rfl ?_
  refine TL.nil ?_
  refine TQ.then_n ?_
  refine T.ret ?_
  refine TQ.rets [4, 5] _ rfl rfl rfl ?_
  exact ⟨rfl, rfl⟩
theorem _root_.Go.Sl.Row.pre {a : Option Addr} {cs : List Value} (h : Row S w0 η a cs) (k : Nat) : Row S w0 η a (cs.take k) :=
  ⟨fun hl => h.ad (by simp at hl; omega), fun i v hi => h.cell i v (by
    rw [List.getElem?_take] at hi; split at hi
    · exact hi
    · cases hi)⟩
theorem cutAt {b n k : Nat} (h : n ≠ k) : (if n = k then some (⟨b, 0, none⟩ : Addr) else (some (⟨b, 0, none⟩ : Addr)).map (·.add (k * 1))) = some ⟨b, k, none⟩ := by
  rw [if_neg h]; simp only [Option.map_some, Nat.mul_one]
  unfold Addr.add; split
  · rename_i h0; simp [h0]
  · simp
theorem cut0 {b n : Nat} : (if n = 0 then some (⟨b, 0, none⟩ : Addr) else (some (⟨b, 0, none⟩ : Addr)).map (·.add (0 * 1))) = some ⟨b, 0, none⟩ := by
  split <;> simp [Addr.add]
def stC (v : Int) (k i : Nat) : Int := if i < k then v else 0
theorem stC_grow {v : Int} {n k c : Nat} (hc : c ≤ k) (hn : k + c ≤ n) : (intC n (stC v k)).take k ++ (intC n (stC v k)).take c ++ (intC n (stC v k)).drop (k + c * 1) = intC n (stC v (k + c)) := by
  apply List.ext_getElem?
  intro i
  by_cases hi : i < n
  · rw [intC_get hi]
    rcases Nat.lt_or_ge i k with h1 | h1
    · rw [List.append_assoc, List.getElem?_append_left (by simp [intC_len]; omega), List.getElem?_take_of_lt h1, intC_get hi]
      simp [stC, h1, show i < k + c by omega]
    · rcases Nat.lt_or_ge i (k + c) with h2 | h2
      · rw [List.append_assoc, List.getElem?_append_right (by simp [intC_len]; omega), List.length_take, intC_len, Nat.min_eq_left (by omega), List.getElem?_append_left (by simp [intC_len]; omega), List.getElem?_take_of_lt (by omega), intC_get (by omega)]
        simp [stC, h2, show i - k < k by omega]
      · rw [List.getElem?_append_right (by simp [intC_len]; omega), List.getElem?_drop]
        have e : k + c * 1 + (i - (List.take k (intC n (stC v k)) ++ List.take c (intC n (stC v k))).length) = i := by simp [intC_len]; omega
        rw [e, intC_get hi]
        simp [stC, show ¬ i < k by omega, show ¬ i < k + c by omega]
  · have e1 : (intC n (stC v (k + c)))[i]? = none := List.getElem?_eq_none (by rw [intC_len]; omega)
    rw [e1]; apply List.getElem?_eq_none; simp [intC_len]; omega
theorem stC_one {v : Int} {n : Nat} (hn : 1 ≤ n) : (intC n fun _ => 0).take 0 ++ ints [v] ++ (intC n fun _ => 0).drop (0 + 1 * 1) = intC n (stC v 1) := by
  apply List.ext_getElem?
  intro i
  by_cases hi : i < n
  · rw [intC_get hi]
    cases i with
    | zero => simp [stC]
    | succ i => simp [stC, List.getElem?_append_right]; exact intC_get hi
  · have e1 : (intC n (stC v 1))[i]? = none := List.getElem?_eq_none (by rw [intC_len]; omega)
    rw [e1]; apply List.getElem?_eq_none; simp [intC_len]; omega

set_option maxHeartbeats 2000000 in
theorem Repeat_fn {a : Option Addr} {c n : Nat} {v : Int} (hn : n ≤ 1000) (h1 : 1 ≤ n) (hx : Row S w0 η a (ints [v])) :
    Rt Try.prog 67 [.slice a 1 c, .int .i64 (n : Int)].toArray S w0 η (fun r η' => ∃ b, r = .slice (some ⟨b, 0, none⟩) n n ∧ η' = iseg b n (fun _ => v) :: η) := by
  have hF := open_wide
  refine Rt.of (fn := Try.f67) Try.func67 rfl rfl ?_
  refine T.seq ?_
  refine T.region ?_
  refine TL.assign hF rfl rfl ?_
  refine TL.nil ?_
  refine TQ.then_n ?_
  refine T.seq ?_
  refine T.seq ?_
  refine T.region ?_
  refine TL.move hF rfl rfl ?_
  refine TL.bin hF rfl rfl rfl rfl ?_
  refine TL.nil ?_
  refine TQ.then_n ?_
  refine T.cond_f rfl (by simp) ?_
  refine T.skip ?_
  refine TQ.then_n ?_
  refine T.seq ?_
  refine T.region ?_
  refine TL.move hF rfl rfl ?_
  refine TL.len hF rfl rfl ?_
  refine TL.convK hF (r := ((1 : Nat) : Int)) rfl (wrap_u64 (by omega) (by omega)) rfl ?_
  refine TL.move hF rfl rfl ?_
  refine TL.convK hF (r := (n : Int)) rfl (wrap_u64 (by omega) (by omega)) rfl ?_
  refine TL.callV hF (Mul_fn n hn) rfl rfl ?_
  refine TL.move hF rfl rfl ?_
  refine TL.extract hF rfl rfl rfl ?_
  refine TL.extract hF rfl rfl rfl ?_
  refine TL.assign hF rfl rfl ?_
  refine TL.assign hF rfl rfl ?_
  refine TL.nil ?_
  refine TQ.then_n ?_
  refine T.seq ?_
  refine T.seq ?_
  refine T.region ?_
  refine TL.move hF rfl rfl ?_
  refine TL.bin hF rfl rfl rfl rfl ?_
  refine TL.move hF rfl rfl ?_
  refine TL.on rfl rfl rfl (by simp) ?_
  refine TL.move hF rfl rfl ?_
  refine TL.on rfl rfl rfl (by simp) ?_
  refine TL.bin hF rfl rfl rfl rfl ?_
  refine TL.pickF hF rfl (by simp) rfl rfl ?_
  refine TL.nil ?_
  refine TQ.then_n ?_
  refine T.cond_f rfl (by first | (simp; done) | (simp; omega)) ?_
  refine T.skip ?_
  refine TQ.then_n ?_
  refine T.seq ?_
  refine T.region ?_
  refine TL.move hF rfl rfl ?_
  refine TL.convK hF (r := (n : Int)) rfl (wrap_i64 (by omega) (by omega)) rfl ?_
  refine TL.makeSlice hF (k := n) rfl rfl rfl (by omega) (by omega) rfl (fun b30 => ?_)
  refine TL.assign hF rfl rfl ?_
  refine TL.nil ?_
  refine TQ.then_n ?_
  refine T.seq ?_
  refine T.region ?_
  refine TL.move hF rfl rfl ?_
  refine TL.move hF rfl rfl ?_
  rw [intC_zero]
  refine TL.copy hF 0 (cs := intC n fun _ => 0) (e' := 3) (k := 1) (ints [v]) (intC n (stC v 1)) rfl rfl rfl (by omega) (hx.up upc) (by simp) (by simp [Value.oneCell']) (by rw [intC_len]; omega) (stC_one h1) rfl ?_
  refine TL.assign hF rfl rfl ?_
  refine TL.nil ?_
  refine TQ.then_n ?_
  refine T.seq ?_
  refine T.block ?_
  refine T.loop (ι := Nat) (fun k => 1 ≤ k ∧ k ≤ n) (fun k => [(7, .slice (some ⟨b30, 0, none⟩) n n), (8, .int .i64 (k : Int))]) (fun k => iseg b30 n (stC v k) :: η) (fun k => n - k) 1 ⟨Nat.le_refl _, h1⟩ ⟨rfl, rfl, trivial⟩ rfl ?_
  rintro k ⟨hk1, hk⟩
  refine T.seq ?_
  refine T.seq ?_
  refine T.region ?_
  refine TL.move hF rfl rfl ?_
  refine TL.move hF rfl rfl ?_
  refine TL.len hF rfl rfl ?_
  refine TL.bin hF rfl rfl rfl rfl ?_
  refine TL.nil ?_
  refine TQ.then_n ?_
  first | refine T.cond_d rfl (fun ht37 => ?_) (fun ht37 => ?_) | refine T.cond _ rfl (fun ht37 => ?_) (fun ht37 => ?_)
  · refine T.skip ?_
    refine TQ.then_n ?_
    refine T.block ?_
    have hkn : k < n := by have h : (k : Int) < n := ht37; omega
    refine T.drawH 8 mixed ?_
    refine DH.pure (i := 0) [(8, _, none)] rfl rfl rfl rfl ⟨⟨rfl, by kernel_rfl⟩, trivial⟩ (fun _ ext => TL.move hF rfl rfl TL.fin) ?_
    refine DH.pure (i := 1) [(7, _, none)] rfl rfl rfl rfl ⟨⟨rfl, by kernel_rfl⟩, trivial⟩ (fun _ ext => TL.move hF rfl rfl TL.fin) ?_
    refine DH.pure (i := 2) [(8, _, none)] rfl rfl rfl rfl ⟨⟨rfl, by kernel_rfl⟩, trivial⟩ (fun _ ext => TL.move hF rfl rfl TL.fin) ?_
    refine DH.pure (i := 3) [(39, _, some 1), (40, _, some 2)] rfl rfl rfl rfl ⟨⟨rfl, rfl, rfl⟩, ⟨rfl, rfl, rfl⟩, trivial⟩ (fun _ ext => (by
          refine TL.slice hF (i := k) (j := n) rfl rfl rfl (by omega) (by omega) rfl ?_
          rw [cutAt (show n ≠ k by omega)]
          exact TL.fin)) ?_
    refine DH.pure (i := 4) [(7, _, none)] rfl rfl rfl rfl ⟨⟨rfl, by kernel_rfl⟩, trivial⟩ (fun _ ext => TL.move hF rfl rfl TL.fin) ?_
    refine DH.pure (i := 5) [(8, _, none)] rfl rfl rfl rfl ⟨⟨rfl, by kernel_rfl⟩, trivial⟩ (fun _ ext => TL.move hF rfl rfl TL.fin) ?_
    refine DH.pure (i := 6) [(42, _, some 4), (43, _, some 5)] rfl rfl rfl rfl ⟨⟨rfl, rfl, rfl⟩, ⟨rfl, rfl, rfl⟩, trivial⟩ (fun _ ext => (by
          refine TL.slice hF (i := 0) (j := k) rfl rfl rfl (by omega) (by omega) rfl ?_
          rw [cut0]
          exact TL.fin)) ?_
    refine DH.heavy 7 [(41, _, some 3), (44, _, some 6)] (by kernel_rfl) (by kernel_rfl) (by kernel_rfl) (by kernel_rfl) rfl rfl rfl rfl ⟨⟨rfl, rfl, rfl⟩, ⟨rfl, rfl, rfl⟩, trivial⟩ (by kernel_rfl) (fun ext => ?_)
    refine TL.copy hF 0 (cs := intC n (stC v k)) (e' := 3) (k := min k (n - k)) ((intC n (stC v k)).take (min k (n - k))) (intC n (stC v (k + min k (n - k)))) rfl rfl rfl rfl ((row_own (e := 3) (by simp)).pre _) (by simp [intC_len] <;> omega) (by intro u hu; obtain ⟨j, _, rfl⟩ := List.mem_map.1 (List.mem_of_mem_take hu); rfl) (by rw [intC_len]; omega) (stC_grow (by omega) (by omega)) rfl ?_
    refine TL.finD ?_
    refine DH.done [(45, _), (44, _), (43, _), (42, _), (41, _), (40, _), (39, _), (38, _)] [_, _] (by kernel_rfl) (by kernel_rfl) (by kernel_rfl) (by kernel_rfl) rfl rfl ?_
    refine TL.add hF rfl rfl (by omega) (by omega) rfl ?_
    refine TL.assign hF rfl rfl ?_
    refine TL.nil ?_
    refine TQ.block_n ?_
    exact TQ.round (k + min k (n - k)) ⟨by omega, by omega⟩ (by omega) ⟨rfl, congrArg (fun z => some (Value.int .i64 z)) (by omega), trivial⟩ rfl
  · refine T.exit ?_
    refine TQ.then_x ?_
    refine TQ.then_x ?_
    refine TQ.block_x ?_
    refine TQ.then_n ?_
    refine T.seq ?_
    refine T.region ?_
    refine TL.move hF rfl rfl ?_
    refine TL.assign hF rfl rfl ?_
    refine TL.nil ?_
    refine TQ.then_n ?_
    refine T.ret ?_
    refine TQ.rets [4] _ rfl rfl rfl ?_
    have hkn : k = n := by have h : ¬ (k : Int) < n := ht37; omega
    subst hkn
    exact ⟨b30, rfl, iseg_congr (fun i hi => by simp [stC, hi])⟩
end Go.Proofs.Ytdehpaikapbckaa
