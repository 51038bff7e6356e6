/- How far relations are from one, by the program. -/
import Derived.Test.YtdehpaikapbckaaBfs
namespace Go.Proofs.Ytdehpaikapbckaa
open Go.Sl
variable {S : Nat → Prop} {w0 : World} {η : Heap}
set_option maxHeartbeats 2000000 in
theorem far_prog {bw n t : Nat} {U : Int → Int → Bool → Bool} {m : List ((Int × Int) × Bool)} (hn : n ≤ 48) (hw : Web η bw n U m) (htn : t < n) :
    Rt Try.prog 58 [ptr bw, .int .i64 (t : Int)].toArray S w0 η (fun v η' => ∃ b, v = .slice (some ⟨b, 0, none⟩) n n ∧ η' = iseg b n (distS (EN U) n t) :: η) := by
  have hF := open_wide
  refine Rt.of (fn := Try.f58) Try.func58 rfl rfl ?_
  refine T.seq ?_
  refine T.region ?_
  refine TL.assign hF rfl rfl ?_
  refine TL.nil ?_
  refine TQ.then_n ?_
  refine T.seq ?_
  refine T.region ?_
  obtain ⟨bm, es, clock, hws, hwm, hwo⟩ := hw.ex
  refine TL.buildSlice hF rfl (cs := #[.int .i64 (-1)]) (e := 3) (fun w => by kernel_rfl) rfl (fun b8 => ?_)
  refine TL.move hF rfl rfl ?_
  refine TL.nilCheck hF rfl rfl ?_
  refine TL.fieldAddr hF rfl rfl ?_
  refine TL.load hF rfl (own_mem (upc _ hws) rfl) rfl ?_
  refine TL.call hF (Repeat_fn (n := n) (v := -1) (by omega) (by omega) (row_own (cs := [.int .i64 (-1)]) (e := 3) (by simp))) rfl rfl ?_
  rintro _ _ ⟨bo, rfl, rfl⟩
  refine TL.assign hF rfl rfl ?_
  refine TL.nil ?_
  refine TQ.then_n ?_
  refine T.seq ?_
  refine T.region ?_
  refine TL.move hF rfl rfl ?_
  refine TL.move hF rfl rfl ?_
  refine TL.indexAddr hF rfl rfl ⟨_, rfl, rfl⟩ (by omega) (by omega) rfl ?_
  refine TL.storeI hF 0 rfl rfl rfl rfl (by simp [intC_len]; omega) ?_
  refine TL.nil ?_
  refine TQ.then_n ?_
  refine T.seq ?_
  refine T.seq ?_
  refine T.region ?_
  refine TL.move hF rfl rfl ?_
  refine TL.buildSlice hF rfl (cs := #[.int .i64 (t : Int)]) (e := 3) (fun w => by kernel_rfl) rfl (fun b18 => ?_)
  refine TL.assign hF rfl rfl ?_
  refine TL.nil ?_
  refine TQ.then_n ?_
  refine T.block ?_
  refine T.hsub ([(b18, .cells #[.int .i64 (t : Int)] 3 (0, 0))] :: iseg bo n (fun a => if a = t then 0 else -1) :: η) (by
    have e : iseg bo n (fun a => if a = t then 0 else -1) = [(bo, Obj.cells ((intC n fun _ => -1).toArray.setIfInBounds (0 + (t : Int).toNat * 1) (.int .i64 0)) 3 (0, 0))] := by
      unfold iseg; rw [intC_set (g := fun a => if a = t then 0 else -1) (fun i hi => by simp)]
    rw [e]
    exact List.Sublist.cons_cons _ (List.Sublist.cons_cons _ (List.sublist_cons_self _ _))) ?_
  refine T.loop (ι := (Nat → Int) × List Nat × Option Addr × Nat × Seg) (fun i => BF (EN U) n t i.1 i.2.1 ∧ OSx 3 1 (.slice i.2.2.1 i.2.1.length i.2.2.2.1) i.2.1.length (nats i.2.1) i.2.2.2.2) (fun i => [(0, ptr bw), (5, .slice (some ⟨bo, 0, none⟩) n n), (6, .slice i.2.2.1 i.2.1.length i.2.2.2.1)]) (fun i => i.2.2.2.2 :: iseg bo n i.1 :: η) (fun i => unm n (seenD i.1) + i.2.1.length) ((fun a => if a = t then 0 else -1), [t], some ⟨b18, 0, none⟩, 1, [(b18, .cells #[.int .i64 (t : Int)] 3 (0, 0))]) ⟨BF.start htn, ⟨rfl, .inr ⟨b18, 0, 1, _, rfl, rfl, Nat.le_refl _, Nat.le_refl _, rfl⟩⟩⟩ ⟨rfl, rfl, rfl, trivial⟩ rfl ?_
  rintro ⟨D, q, qa, qc, qg⟩ ⟨hb, ho⟩
  simp only at hb ho
  refine T.seq ?_
  refine T.seq ?_
  refine T.region ?_
  refine TL.move hF rfl rfl ?_
  refine TL.len hF rfl rfl ?_
  refine TL.bin hF rfl rfl rfl rfl ?_
  refine TL.nil ?_
  refine TQ.then_n ?_
  first | refine T.cond_d rfl (fun ht21 => ?_) (fun ht21 => ?_) | refine T.cond _ rfl (fun ht21 => ?_) (fun ht21 => ?_)
  · refine T.skip ?_
    refine TQ.then_n ?_
    refine T.seq ?_
    refine T.block ?_
    refine T.seq ?_
    refine T.region ?_
    refine TL.move hF rfl rfl ?_
    refine TL.nilCheck hF rfl rfl ?_
    refine TL.fieldAddr hF rfl rfl ?_
    refine TL.load hF rfl (own_mem (upc _ (upc _ hws)) rfl) rfl ?_
    refine TL.move hF rfl rfl ?_
    refine TL.nil ?_
    refine TQ.then_n ?_
    refine T.block ?_
    obtain ⟨h, q', rfl⟩ : ∃ h q', q = h :: q' := by
      cases q with
      | nil => simp at ht21
      | cons h q' => exact ⟨h, q', rfl⟩
    refine T.loop (ι := Nat × (Nat → Int) × List Nat × Option Addr × Nat × Seg) (fun i => i.1 ≤ n ∧ BF (EN U) n t i.2.1 (h :: i.2.2.1) ∧ OSx 3 1 (.slice i.2.2.2.1 (h :: i.2.2.1).length i.2.2.2.2.1) (h :: i.2.2.1).length (nats (h :: i.2.2.1)) i.2.2.2.2.2 ∧ (∀ a, a < i.1 → EN U a h = true → 0 ≤ i.2.1 a) ∧ unm n (seenD i.2.1) + i.2.2.1.length ≤ unm n (seenD D) + q'.length) (fun i => [(0, ptr bw), (5, .slice (some ⟨bo, 0, none⟩) n n), (6, .slice i.2.2.2.1 (h :: i.2.2.1).length i.2.2.2.2.1), (27, .int .i64 (n : Int)), (28, .int .i64 (i.1 : Int))]) (fun i => i.2.2.2.2.2 :: iseg bo n i.2.1 :: η) (fun i => n - i.1) (0, D, q', qa, qc, qg) ⟨Nat.zero_le _, hb, ho, by omega, Nat.le_refl _⟩ ⟨rfl, rfl, rfl, rfl, rfl, trivial⟩ rfl ?_
    rintro ⟨k, D1, q1, qa1, qc1, qg1⟩ ⟨hk, hb1, ho1, hkk, hmu⟩
    simp only at hk hb1 ho1 hkk hmu
    have hhn := hb1.qs h List.mem_cons_self
    have hbd := hb1.bd h hhn.1
    have hql := hb1.ql
    simp only [List.length_cons] at hql
    have hrow : Row S w0 (qg1 :: iseg bo n D1 :: η) qa1 (nats (h :: q1)) := ho1.row List.mem_cons_self
    have hweb : Web (qg1 :: iseg bo n D1 :: η) bw n U m := hw.up (fun x hx => upc _ (upc _ hx))
    refine T.seq ?_
    refine T.region ?_
    refine TL.bin hF rfl rfl rfl rfl ?_
    refine TL.nil ?_
    refine TQ.then_n ?_
    refine T.seq ?_
    first | refine T.cond_d rfl (fun ht29 => ?_) (fun ht29 => ?_) | refine T.cond _ rfl (fun ht29 => ?_) (fun ht29 => ?_)
    · refine T.skip ?_
      refine TQ.then_n ?_
      refine T.seq ?_
      refine T.block ?_
      refine T.seq ?_
      refine T.region ?_
      refine TL.move hF rfl rfl ?_
      refine TL.assign hF rfl rfl ?_
      refine TL.nil ?_
      refine TQ.then_n ?_
      refine T.seq ?_
      refine T.region ?_
      refine TL.move hF rfl rfl ?_
      refine TL.move hF rfl rfl ?_
      refine TL.indexAddr hF rfl rfl ⟨_, rfl, rfl⟩ (by omega) (by omega) rfl ?_
      refine TL.load hF rfl (iseg_at (f := D1) (n := n) (b := bo) (j := k) (upc _ List.mem_cons_self) (by omega)) rfl ?_
      refine TL.bin hF rfl rfl rfl rfl ?_
      refine TL.move hF rfl rfl ?_
      refine TL.gd (t := 36) rfl (fun g9_36 => ?_) (fun g9_36 => ?_)
      · refine TL.on rfl rfl rfl (decide_eq_true g9_36) ?_
        refine TL.move hF rfl rfl ?_
        refine TL.on rfl rfl rfl (decide_eq_true g9_36) ?_
        refine TL.move hF rfl rfl ?_
        refine TL.on rfl rfl rfl (decide_eq_true g9_36) ?_
        refine TL.move hF rfl rfl ?_
        refine TL.on rfl rfl rfl (decide_eq_true g9_36) ?_
        refine TL.indexAddr hF rfl rfl (hrow.nad (i := 0) (by simp)) (by omega) (by simp) rfl ?_
        refine TL.on rfl rfl rfl (decide_eq_true g9_36) ?_
        refine TL.load hF rfl (hrow.nat (i := 0) (by simp)) rfl ?_
        refine TL.on rfl rfl rfl (decide_eq_true g9_36) ?_
        refine TL.build hF rfl (r := KU (k, h)) (fun w => by kernel_rfl) rfl ?_
        refine TL.on rfl rfl rfl (decide_eq_true g9_36) ?_
        refine TL.callV hF (any_fn hweb k h) rfl rfl ?_
        refine TL.pickT hF rfl (decide_eq_true g9_36) rfl rfl ?_
        refine TL.nil ?_
        refine TQ.then_n ?_
        refine T.cond _ rfl (fun ht44 => ?_) (fun ht44 => ?_)
        · refine T.seq ?_
          refine T.region ?_
          refine TL.move hF rfl rfl ?_
          refine TL.move hF rfl rfl ?_
          refine TL.move hF rfl rfl ?_
          refine TL.move hF rfl rfl ?_
          refine TL.indexAddr hF rfl rfl (hrow.nad (i := 0) (by simp)) (by omega) (by simp) rfl ?_
          refine TL.load hF rfl (hrow.nat (i := 0) (by simp)) rfl ?_
          refine TL.indexAddr hF rfl rfl ⟨_, rfl, rfl⟩ (by simp) (by simp; omega) rfl ?_
          refine TL.load hF rfl (iseg_at (f := D1) (n := n) (b := bo) (j := h) (upc _ List.mem_cons_self) (by omega)) rfl ?_
          refine TL.add hF rfl rfl (by omega) (by omega) rfl ?_
          refine TL.indexAddr hF rfl rfl ⟨_, rfl, rfl⟩ (by omega) (by omega) rfl ?_
          refine TL.storeI hF 1 rfl rfl rfl rfl (by simp [intC_len]; omega) ?_
          refine TL.nil ?_
          refine TQ.then_n ?_
          refine T.region ?_
          refine TL.move hF rfl rfl ?_
          refine TL.move hF rfl rfl ?_
          refine TL.buildSlice hF rfl (cs := #[.int .i64 (k : Int)]) (e := 3) (fun w => by kernel_rfl) rfl (fun b57 => ?_)
          refine TL.appendX hF 1 rfl rfl rfl ho1 (row_own (cs := [.int .i64 (k : Int)]) (e := 3) (by simp)).src rfl rfl (by simp [Value.oneCell']) (by simp only [List.length_cons]; omega) (by simp only [List.length_cons]; omega) rfl (fun a' cap' seg' ho' => ?_)
          refine TL.assign hF rfl rfl ?_
          refine TL.nil ?_
          refine TQ.block_n ?_
          refine TQ.then_n ?_
          refine T.region ?_
          refine TL.add hF rfl rfl (by omega) (by omega) rfl ?_
          refine TL.move hF rfl rfl ?_
          refine TL.nil ?_
          have hpush := hb1.push (r := k) (by omega) (show D1 k < 0 from g9_36) ht44
          have e1 : (h :: (q1 ++ [k])).length = (h :: q1).length + 1 := by simp
          refine TQ.pop ?_
          refine TQ.round (k + 1, updD D1 k (D1 h + 1), q1 ++ [k], a', cap', seg') ⟨by simp only; omega, hpush.1, by simpa using ho', fun a ha he => ?_, ?_⟩ (by simp only; omega) ⟨rfl, rfl, congrArg (fun z => some (Value.slice a' z cap')) e1.symm, rfl, rfl, trivial⟩ (congrArg (fun z : Heap => seg' :: z) (iseg_set (j := k) (by simp) (fun i hi => by simp [updD])))
          · show 0 ≤ updD D1 k (D1 h + 1) a
            unfold updD
            by_cases e : a = k
            · rw [if_pos e]; omega
            · rw [if_neg e]; exact hkk a (by simp only at ha; omega) he
          · have h2 := hpush.2; simp only [List.length_append, List.length_singleton]; omega
        · refine T.skip ?_
          refine TQ.block_n ?_
          refine TQ.then_n ?_
          refine T.region ?_
          refine TL.add hF rfl rfl (by omega) (by omega) rfl ?_
          refine TL.move hF rfl rfl ?_
          refine TL.nil ?_
          refine TQ.round (k + 1, D1, q1, qa1, qc1, qg1) ⟨by simp only; omega, hb1, ho1, fun a ha he => ?_, hmu⟩ (by simp only; omega) ⟨rfl, rfl, rfl, rfl, rfl, trivial⟩ rfl
          by_cases e : a = k
          · subst e; first | (exfalso; rw [show U a h false = true from he] at ht44; cases ht44) | (have h : ¬ D1 a < 0 := g9_36; show 0 ≤ D1 a; omega)
          · exact hkk a (by simp only at ha; omega) he
      · refine TL.off hF rfl rfl rfl (decide_eq_false g9_36) rfl ?_
        refine TL.off hF rfl rfl rfl (decide_eq_false g9_36) rfl ?_
        refine TL.off hF rfl rfl rfl (decide_eq_false g9_36) rfl ?_
        refine TL.off hF rfl rfl rfl (decide_eq_false g9_36) rfl ?_
        refine TL.off hF rfl rfl rfl (decide_eq_false g9_36) rfl ?_
        refine TL.off hF rfl rfl rfl (decide_eq_false g9_36) rfl ?_
        refine TL.off hF rfl rfl rfl (decide_eq_false g9_36) rfl ?_
        refine TL.pickF hF rfl (decide_eq_false g9_36) rfl rfl ?_
        refine TL.nil ?_
        refine TQ.then_n ?_
        refine T.cond_f rfl rfl ?_
        refine T.skip ?_
        refine TQ.block_n ?_
        refine TQ.then_n ?_
        refine T.region ?_
        refine TL.add hF rfl rfl (by omega) (by omega) rfl ?_
        refine TL.move hF rfl rfl ?_
        refine TL.nil ?_
        refine TQ.round (k + 1, D1, q1, qa1, qc1, qg1) ⟨by simp only; omega, hb1, ho1, fun a ha he => ?_, hmu⟩ (by simp only; omega) ⟨rfl, rfl, rfl, rfl, rfl, trivial⟩ rfl
        by_cases e : a = k
        · subst e; first | (exfalso; rw [show U a h false = true from he] at ht44; cases ht44) | (have h : ¬ D1 a < 0 := g9_36; show 0 ≤ D1 a; omega)
        · exact hkk a (by simp only at ha; omega) he
    · refine T.exit ?_
      refine TQ.then_x ?_
      refine TQ.then_x ?_
      refine TQ.block_x ?_
      refine TQ.block_n ?_
      refine TQ.then_n ?_
      refine T.region ?_
      refine TL.move hF rfl rfl ?_
      refine TL.slice hF (i := 1) (j := (h :: q1).length) rfl rfl rfl (by simp) (by have h2 := ho1.2; rcases h2 with ⟨h2, _⟩ | ⟨_, _, _, _, h2, _, h3, _⟩ <;> first | (cases h2; exact h3) | cases h2) rfl ?_
      refine TL.assign hF rfl rfl ?_
      refine TL.nil ?_
      have hkn : k = n := by have h : ¬ (k : Int) < n := ht29; omega
      subst hkn
      have hp := hb1.pop hkk
      have e1 : (h :: q1).length - 1 = q1.length := by simp
      have hc := ho1.cut (k := 1) (by simp)
      refine TQ.round (D1, q1, _, _, qg1) ⟨hp, ?_⟩ (by simp only [List.length_cons]; omega) ⟨rfl, rfl, congrArg (fun z => some (Value.slice _ z _)) e1, trivial⟩ rfl
      rw [e1] at hc
      exact hc
  · refine T.exit ?_
    refine TQ.then_x ?_
    refine TQ.then_x ?_
    refine TQ.block_x ?_
    refine TQ.then_n ?_
    refine T.seq ?_
    refine T.region ?_
    refine TL.move hF rfl rfl ?_
    refine TL.assign hF rfl rfl ?_
    refine TL.nil ?_
    refine TQ.then_n ?_
    refine T.ret ?_
    have hq : q = [] := by
      cases q with
      | nil => rfl
      | cons x r => exfalso; simp at ht21
    subst hq
    refine TQ.pop ?_
    refine TQ.rets [4] _ rfl rfl rfl ?_
    exact ⟨bo, rfl, iseg_congr (fun i hi => (IsDist.eq htn hb.dist (distS_is htn) hi))⟩
end Go.Proofs.Ytdehpaikapbckaa
