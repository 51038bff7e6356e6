/- Boxes, by the program and by the specification: for every input. No condition. -/
import Derived.Test.YteimjjpigohnhaaGreatRe
import Derived.Test.YteimjjpigohnhaaGreatRd
import Derived.Test.YteimjjpigohnhaaGreatRf
import Derived.Test.YteimjjpigohnhaaGreatRows
/- Boxes, by the specification. -/
namespace Go.Proofs.YteimjjpigohnhaaGreat
open Go.Sl
variable {S : Nat → Prop} {w0 : World} {η : Heap}
theorem min_step {p m : Int} (hp : 1 ≤ p) (hm : 1 ≤ m) : min (min p 5000 * m) 5000 = min (p * m) 5000 := by
  by_cases h : p ≤ 5000
  · rw [show min p 5000 = p by omega]
  · rw [show min p 5000 = 5000 by omega]
    have h1 := Int.mul_le_mul (show (5000 : Int) ≤ p by omega) (Int.le_refl m) (by omega) (by omega)
    have h2 := Int.mul_le_mul (show (5000 : Int) ≤ 5000 by omega) hm (by omega) (by omega)
    omega
set_option maxHeartbeats 2000000 in
theorem cells_ref {a : Option Addr} {l : List Int} {c : Nat} (hx : Row S w0 η a (ints l)) (hl : l.length < 2 ^ 63) :
    Rt Tryz.prog 107 [.slice a l.length c].toArray S w0 η (fun v η' => v = .int .i64 (cellsS l) ∧ η' = η) := by
  have hF := open_wide
  refine Rt.of (fn := Tryz.f107) Tryz.func107 rfl rfl ?_
  refine T.seq ?_
  refine T.region ?_
  refine TL.assign hF rfl rfl ?_
  refine TL.nil ?_
  refine TQ.then_n ?_
  refine T.seq ?_
  refine T.seq ?_
  refine T.region ?_
  refine TL.move hF rfl rfl ?_
  refine TL.len hF rfl rfl ?_
  refine TL.callV hF (Lies_fn _ _ _) rfl rfl ?_
  refine TL.not hF rfl rfl ?_
  refine TL.nil ?_
  refine TQ.then_n ?_
  refine T.cond _ rfl (fun ht8 => ?_) (fun ht8 => ?_)
  · refine T.seq ?_
    refine T.region ?_
    refine TL.assign hF rfl rfl ?_
    refine TL.nil ?_
    refine TQ.then_n ?_
    refine T.ret ?_
    refine TQ.then_r ?_
    refine TQ.rets [2] _ rfl rfl rfl ?_
    exact ⟨by rw [cellsS_bad (fun q => by simp at ht8; omega)]; rfl, rfl⟩
  · refine T.skip ?_
    refine TQ.then_n ?_
    refine T.seq ?_
    refine T.region ?_
    refine TL.assign hF rfl rfl ?_
    refine TL.nil ?_
    refine TQ.then_n ?_
    refine T.seq ?_
    refine T.seq ?_
    refine T.region ?_
    refine TL.assign hF rfl rfl ?_
    refine TL.nil ?_
    refine TQ.then_n ?_
    refine T.block ?_
    have hlen : 1 ≤ l.length ∧ l.length ≤ 4 := by simp at ht8; omega
    refine T.loop (ι := Nat) (fun k => k ≤ l.length ∧ (l.take k).all szOk = true) (fun k => [(0, .slice a l.length c), (2, .int .i64 0), (3, .int .i64 (min (prodI (l.take k)) 5000)), (4, .int .i64 (k : Int))]) (fun _ => η) (fun k => l.length - k) 0 ⟨Nat.zero_le _, by simp⟩ ⟨rfl, rfl, rfl, rfl, trivial⟩ rfl ?_
    rintro k ⟨hk, hall⟩
    have hpp := prodI_pos hall
    refine T.seq ?_
    refine T.seq ?_
    refine T.region ?_
    refine TL.move hF rfl rfl ?_
    refine TL.move hF rfl rfl ?_
    refine TL.len hF rfl rfl ?_
    refine TL.bin hF rfl rfl rfl rfl ?_
    refine TL.nil ?_
    refine TQ.then_n ?_
    first | refine T.cond_d rfl (fun ht12 => ?_) (fun ht12 => ?_) | refine T.cond _ rfl (fun ht12 => ?_) (fun ht12 => ?_)
    · refine T.skip ?_
      refine TQ.then_n ?_
      refine T.seq ?_
      refine T.block ?_
      refine T.seq ?_
      refine T.seq ?_
      refine T.region ?_
      refine TL.move hF rfl rfl ?_
      refine TL.move hF rfl rfl ?_
      refine TL.indexAddr hF rfl rfl (hx.adi (i := k) (by simp; omega)) (by omega) (by omega) rfl ?_
      refine TL.load hF rfl (hx.int (i := k) (by omega)) rfl ?_
      refine TL.callV hF (Lies_fn _ _ _) rfl rfl ?_
      refine TL.not hF rfl rfl ?_
      refine TL.nil ?_
      refine TQ.then_n ?_
      refine T.cond _ rfl (fun ht20 => ?_) (fun ht20 => ?_)
      · refine T.seq ?_
        refine T.region ?_
        refine TL.assign hF rfl rfl ?_
        refine TL.nil ?_
        refine TQ.then_n ?_
        refine T.ret ?_
        refine TQ.then_r ?_
        refine TQ.block_r ?_
        refine TQ.then_r ?_
        refine TQ.then_r ?_
        refine TQ.block_r ?_
        refine TQ.then_r ?_
        refine TQ.rets [2] _ rfl rfl rfl ?_
        exact ⟨by rw [cellsS_bad (fun q => by
            have h1 := List.all_eq_true.1 q.2.1 (l[k]'(by omega)) (List.getElem_mem _)
            unfold szOk at h1; rw [h1] at ht20; cases ht20)]; rfl, rfl⟩
      · refine T.skip ?_
        refine TQ.then_n ?_
        refine T.region ?_
        refine TL.move hF rfl rfl ?_
        refine TL.move hF rfl rfl ?_
        refine TL.move hF rfl rfl ?_
        have hkl : k < l.length := by omega
        have hsz : szOk l[k] = true := by unfold szOk; simpa using ht20
        have hs2 := szOk_iff.1 hsz
        refine TL.indexAddr hF rfl rfl (hx.adi (i := k) (by simp; omega)) (by omega) (by omega) rfl ?_
        refine TL.load hF rfl (hx.int (i := k) (by omega)) rfl ?_
        have hmm := mul_4096 (a := min (prodI (l.take k)) 5000) (b := l[k]) (by omega) (by omega) hs2.1 hs2.2
        refine TL.mul hF rfl rfl (by omega) (by omega) rfl ?_
        refine TL.min2 hF rfl rfl rfl ?_
        refine TL.assign hF rfl rfl ?_
        refine TL.nil ?_
        refine TQ.block_n ?_
        refine TQ.then_n ?_
        refine T.region ?_
        refine TL.move hF rfl rfl ?_
        refine TL.add hF rfl rfl (by omega) (by omega) rfl ?_
        refine TL.assign hF rfl rfl ?_
        refine TL.nil ?_
        refine TQ.round (k + 1) ⟨by omega, by rw [all_take_succ hkl, hall, hsz]; rfl⟩ (by omega) ⟨rfl, rfl, congrArg (fun z => some (Value.int .i64 z)) ?_, rfl, trivial⟩ rfl
        rw [prodI_take hkl]; exact min_step hpp hs2.1
    · refine T.exit ?_
      refine TQ.then_x ?_
      refine TQ.then_x ?_
      refine TQ.block_x ?_
      refine TQ.then_n ?_
      refine T.seq ?_
      refine T.seq ?_
      refine T.region ?_
      refine TL.move hF rfl rfl ?_
      refine TL.bin hF rfl rfl rfl rfl ?_
      refine TL.nil ?_
      refine TQ.then_n ?_
      first | refine T.cond_d rfl (fun ht29 => ?_) (fun ht29 => ?_) | refine T.cond _ rfl (fun ht29 => ?_) (fun ht29 => ?_)
      · refine T.seq ?_
        refine T.region ?_
        refine TL.assign hF rfl rfl ?_
        refine TL.nil ?_
        refine TQ.then_n ?_
        refine T.ret ?_
        refine TQ.then_r ?_
        refine TQ.rets [2] _ rfl rfl rfl ?_
        have e : l.take k = l := List.take_of_length_le (by omega)
        have e3 : prodI (l.take k) = prodI l := by rw [e]
        exact ⟨by rw [cellsS_bad (fun q => by omega)]; rfl, rfl⟩
      · refine T.skip ?_
        refine TQ.then_n ?_
        refine T.seq ?_
        refine T.region ?_
        refine TL.move hF rfl rfl ?_
        refine TL.assign hF rfl rfl ?_
        refine TL.nil ?_
        refine TQ.then_n ?_
        refine T.ret ?_
        refine TQ.rets [2] _ rfl rfl rfl ?_
        have e : l.take k = l := List.take_of_length_le (by omega)
        have e3 : prodI (l.take k) = prodI l := by rw [e]
        rw [e] at hall
        have e2 : cellsS l = prodI l := by unfold cellsS; rw [if_pos ⟨hlen, hall, by omega⟩]
        exact ⟨by rw [e2]; show Value.int .i64 (min (prodI (l.take k)) 5000) = _; rw [show min (prodI (l.take k)) 5000 = prodI l by omega], rfl⟩
end Go.Proofs.YteimjjpigohnhaaGreat
/- The time of a cell, by the specification and by the law. -/
namespace Go.Proofs.YteimjjpigohnhaaGreat
open Go.Sl
variable {S : Nat → Prop} {w0 : World} {η : Heap}
/-- The time of a cell. -/
def tmZ (sizes : List Int) (i : Nat) : Tm := (tmN (nsz sizes) i).map fun (n : Nat) => (n : Int)
theorem tmZ_len (sizes : List Int) (i : Nat) : (tmZ sizes i).length = sizes.length := by simp [tmZ, tmN_len, nsz]
theorem tmZ_get : ∀ {sizes : List Int} {i j : Nat} (h : j < sizes.length), (tmZ sizes i).getD j 0 = (((i / prodN (nsz (sizes.drop (j + 1)))) % (sizes[j]).toNat : Nat) : Int)
  | x :: l, i, 0, _ => rfl
  | x :: l, i, j + 1, h => by
    have := tmZ_get (sizes := l) (i := i) (j := j) (by simpa using h)
    simp only [List.drop_succ_cons, List.getElem_cons_succ]
    rw [← this]; rfl
theorem tle_tmZ : ∀ (a b : List Nat), tle (a.map fun (n : Nat) => (n : Int)) (b.map fun (n : Nat) => (n : Int)) = leN a b
  | [], _ => by simp [tle, leN]
  | _ :: _, [] => by simp [tle, leN]
  | x :: a, y :: b => by
    simp only [List.map_cons, tle, leN]
    rw [tle_tmZ a b]
    congr 1
    rw [Bool.eq_iff_iff, decide_eq_true_eq, decide_eq_true_eq]; omega
def tmF (sizes : List Int) (i k j : Nat) : Int := if k ≤ j then (tmZ sizes i).getD j 0 else 0
theorem cell_step {sizes : List Int} (_h : sizes.all szOk = true) {i j : Nat} (hj : j < sizes.length) : i / prodN (nsz (sizes.drop j)) = (i / prodN (nsz (sizes.drop (j + 1)))) / (sizes[j]).toNat := by
  rw [nsz_drop hj]
  show i / ((sizes[j]).toNat * prodN (nsz (sizes.drop (j + 1)))) = _
  rw [Nat.div_div_eq_div_mul, Nat.mul_comm]
set_option maxHeartbeats 2000000 in
theorem lawcells_fn {a : Option Addr} {sizes : List Int} {c i : Nat} (hx : Row S w0 η a (ints sizes)) (hl : sizes.length ≤ 4) (hok : sizes.all szOk = true) (hi : i < 9223372036854775807) :
    Rt Tryz.prog 20 [.slice a sizes.length c, .int .i64 (i : Int)].toArray S w0 η (fun v η' => ∃ g, v = .slice (some ⟨g, 0, none⟩) sizes.length sizes.length ∧ η' = iseg g sizes.length (fun j => (tmZ sizes i).getD j 0) :: η) := by
  have hF := open_wide
  refine Rt.of (fn := Tryz.f20) Tryz.func20 rfl rfl ?_
  refine T.seq ?_
  refine T.region ?_
  refine TL.assign hF rfl rfl ?_
  refine TL.nil ?_
  refine TQ.then_n ?_
  refine T.seq ?_
  refine T.region ?_
  refine TL.move hF rfl rfl ?_
  refine TL.len hF rfl rfl ?_
  refine TL.makeSlice hF (k := sizes.length) rfl rfl rfl (by omega) (by omega) rfl (fun b9 => ?_)
  rw [intC_zero]
  refine TL.assign hF rfl rfl ?_
  refine TL.nil ?_
  refine TQ.then_n ?_
  refine T.seq ?_
  refine T.seq ?_
  refine T.region ?_
  refine TL.move hF rfl rfl ?_
  refine TL.len hF rfl rfl ?_
  refine TL.sub hF rfl rfl (by omega) (by omega) rfl ?_
  refine TL.assign hF rfl rfl ?_
  refine TL.nil ?_
  refine TQ.then_n ?_
  refine T.block ?_
  refine T.heap (iseg_congr (n := sizes.length) (b := b9) (g := tmF sizes i sizes.length) (fun j hj => by unfold tmF; rw [if_neg (by omega)])) ?_
  refine T.loop (ι := Nat) (fun k => k ≤ sizes.length) (fun k => [(0, .slice a sizes.length c), (1, .int .i64 ((i / prodN (nsz (sizes.drop k)) : Nat) : Int)), (5, .slice (some ⟨b9, 0, none⟩) sizes.length sizes.length), (6, .int .i64 ((k : Int) - 1))]) (fun k => iseg b9 sizes.length (tmF sizes i k) :: η) (fun k => k) sizes.length (Nat.le_refl _) ⟨rfl, by rw [List.drop_length]; show _ = some (Value.int .i64 ((i / 1 : Nat) : Int)); rw [Nat.div_one]; rfl, rfl, rfl, trivial⟩ rfl ?_
  intro k hk
  refine T.seq ?_
  refine T.seq ?_
  refine T.region ?_
  refine TL.move hF rfl rfl ?_
  refine TL.bin hF rfl rfl rfl rfl ?_
  refine TL.nil ?_
  refine TQ.then_n ?_
  first | refine T.cond_d rfl (fun ht14 => ?_) (fun ht14 => ?_) | refine T.cond _ rfl (fun ht14 => ?_) (fun ht14 => ?_)
  · refine T.skip ?_
    refine TQ.then_n ?_
    refine T.seq ?_
    refine T.block ?_
    refine T.seq ?_
    refine T.region ?_
    refine TL.move hF rfl rfl ?_
    refine TL.move hF rfl rfl ?_
    refine TL.move hF rfl rfl ?_
    refine TL.move hF rfl rfl ?_
    refine TL.move hF rfl rfl ?_
    obtain ⟨j, rfl⟩ : ∃ j, k = j + 1 := ⟨k - 1, by omega⟩
    rw [show (((j + 1 : Nat) : Int) - 1) = (j : Int) by omega]
    have hjl : j < sizes.length := by omega
    have hs2 := szOk_iff.1 (List.all_eq_true.1 hok sizes[j] (List.getElem_mem hjl))
    obtain ⟨m, hme⟩ : ∃ m : Nat, sizes[j] = (m : Int) := ⟨(sizes[j]).toNat, by omega⟩
    have hm0 : 0 < m := by omega
    have hcs := cell_step hok (i := i) hjl
    have hmt : (sizes[j]).toNat = m := by omega
    rw [hmt] at hcs
    have hq : i / prodN (nsz (sizes.drop (j + 1))) ≤ i := Nat.div_le_self _ _
    have hget := tmZ_get (i := i) hjl
    rw [hmt] at hget
    generalize hqe : i / prodN (nsz (sizes.drop (j + 1))) = q at hcs hq hget ⊢
    refine TL.indexAddr hF rfl rfl (hx.adi (i := j) (by simp; omega)) (by omega) (by omega) rfl ?_
    refine TL.load hF rfl (v := .int .i64 (m : Int)) (by rw [← hme]; exact (hx.up upc).int (i := j) hjl) rfl ?_
    refine TL.remN hF (a := q) (b := m) rfl rfl hm0 rfl ?_
    refine TL.indexAddr hF rfl rfl ⟨_, rfl, rfl⟩ (by omega) (by omega) rfl ?_
    refine TL.storeI hF 0 rfl rfl rfl rfl (by simp [intC_len]; omega) ?_
    refine TL.nil ?_
    refine TQ.then_n ?_
    refine T.region ?_
    refine TL.move hF rfl rfl ?_
    refine TL.move hF rfl rfl ?_
    refine TL.move hF rfl rfl ?_
    refine TL.indexAddr hF rfl rfl (hx.adi (i := j) (by simp; omega)) (by omega) (by omega) rfl ?_
    refine TL.load hF rfl (v := .int .i64 (m : Int)) (by rw [← hme]; exact (hx.up upc).int (i := j) hjl) rfl ?_
    refine TL.quoN hF (a := q) (b := m) rfl rfl hm0 (wrap_nat (Nat.le_trans (Nat.div_le_self q m) (by omega))) rfl ?_
    refine TL.assign hF rfl rfl ?_
    refine TL.nil ?_
    refine TQ.block_n ?_
    refine TQ.then_n ?_
    refine T.region ?_
    refine TL.move hF rfl rfl ?_
    refine TL.sub hF rfl rfl (by omega) (by omega) rfl ?_
    refine TL.assign hF rfl rfl ?_
    refine TL.nil ?_
    refine TQ.round j (by omega) (by omega) ⟨rfl, ?_, rfl, rfl, trivial⟩ (iseg_set (j := j) (by simp) (fun x hx2 => ?_))
    · show _ = some (Value.int .i64 ((i / prodN (nsz (sizes.drop j)) : Nat) : Int))
      rw [hcs]; rfl
    · unfold tmF
      by_cases e : x = j
      · subst e; rw [if_pos (by omega), if_pos rfl, hget]
      · rw [if_neg e]
        by_cases h2 : j ≤ x
        · rw [if_pos h2, if_pos (by omega)]
        · rw [if_neg h2, if_neg (by omega)]
  · refine T.exit ?_
    refine TQ.then_x ?_
    refine TQ.then_x ?_
    refine TQ.block_x ?_
    refine TQ.then_n ?_
    refine T.seq ?_
    refine T.region ?_
    refine TL.move hF rfl rfl ?_
    refine TL.assign hF rfl rfl ?_
    refine TL.nil ?_
    refine TQ.then_n ?_
    refine T.ret ?_
    refine TQ.rets [4] _ rfl rfl rfl ?_
    have hk0 : k = 0 := by omega
    subst hk0
    exact ⟨b9, rfl, iseg_congr fun j hj => by unfold tmF; rw [if_pos (Nat.zero_le _)]⟩
set_option maxHeartbeats 2000000 in
theorem Time_ref {a : Option Addr} {sizes : List Int} {c i : Nat} (hx : Row S w0 η a (ints sizes)) (hl : sizes.length ≤ 4) (hok : sizes.all szOk = true) (hi : i < 9223372036854775807) :
    Rt Tryz.prog 108 [.slice a sizes.length c, .int .i64 (i : Int)].toArray S w0 η (fun v η' => ∃ g, v = .slice (some ⟨g, 0, none⟩) sizes.length sizes.length ∧ η' = iseg g sizes.length (fun j => (tmZ sizes i).getD j 0) :: η) := by
  have hF := open_wide
  refine Rt.of (fn := Tryz.f108) Tryz.func108 rfl rfl ?_
  refine T.seq ?_
  refine T.region ?_
  refine TL.assign hF rfl rfl ?_
  refine TL.nil ?_
  refine TQ.then_n ?_
  refine T.seq ?_
  refine T.region ?_
  refine TL.move hF rfl rfl ?_
  refine TL.len hF rfl rfl ?_
  refine TL.makeSlice hF (k := sizes.length) rfl rfl rfl (by omega) (by omega) rfl (fun b9 => ?_)
  rw [intC_zero]
  refine TL.assign hF rfl rfl ?_
  refine TL.nil ?_
  refine TQ.then_n ?_
  refine T.seq ?_
  refine T.seq ?_
  refine T.region ?_
  refine TL.move hF rfl rfl ?_
  refine TL.len hF rfl rfl ?_
  refine TL.sub hF rfl rfl (by omega) (by omega) rfl ?_
  refine TL.assign hF rfl rfl ?_
  refine TL.nil ?_
  refine TQ.then_n ?_
  refine T.block ?_
  refine T.heap (iseg_congr (n := sizes.length) (b := b9) (g := tmF sizes i sizes.length) (fun j hj => by unfold tmF; rw [if_neg (by omega)])) ?_
  refine T.loop (ι := Nat) (fun k => k ≤ sizes.length) (fun k => [(0, .slice a sizes.length c), (1, .int .i64 ((i / prodN (nsz (sizes.drop k)) : Nat) : Int)), (5, .slice (some ⟨b9, 0, none⟩) sizes.length sizes.length), (6, .int .i64 ((k : Int) - 1))]) (fun k => iseg b9 sizes.length (tmF sizes i k) :: η) (fun k => k) sizes.length (Nat.le_refl _) ⟨rfl, by rw [List.drop_length]; show _ = some (Value.int .i64 ((i / 1 : Nat) : Int)); rw [Nat.div_one]; rfl, rfl, rfl, trivial⟩ rfl ?_
  intro k hk
  refine T.seq ?_
  refine T.seq ?_
  refine T.region ?_
  refine TL.move hF rfl rfl ?_
  refine TL.bin hF rfl rfl rfl rfl ?_
  refine TL.nil ?_
  refine TQ.then_n ?_
  first | refine T.cond_d rfl (fun ht14 => ?_) (fun ht14 => ?_) | refine T.cond _ rfl (fun ht14 => ?_) (fun ht14 => ?_)
  · refine T.skip ?_
    refine TQ.then_n ?_
    refine T.seq ?_
    refine T.block ?_
    obtain ⟨j, rfl⟩ : ∃ j, k = j + 1 := ⟨k - 1, by omega⟩
    rw [show (((j + 1 : Nat) : Int) - 1) = (j : Int) by omega]
    have hjl : j < sizes.length := by omega
    have hs2 := szOk_iff.1 (List.all_eq_true.1 hok sizes[j] (List.getElem_mem hjl))
    obtain ⟨m, hme⟩ : ∃ m : Nat, sizes[j] = (m : Int) := ⟨(sizes[j]).toNat, by omega⟩
    have hm0 : 0 < m := by omega
    have hcs := cell_step hok (i := i) hjl
    have hmt : (sizes[j]).toNat = m := by omega
    rw [hmt] at hcs
    have hq : i / prodN (nsz (sizes.drop (j + 1))) ≤ i := Nat.div_le_self _ _
    have hget := tmZ_get (i := i) hjl
    rw [hmt] at hget
    generalize hqe : i / prodN (nsz (sizes.drop (j + 1))) = q at hcs hq hget ⊢
    refine T.drawH 16 mixed ?_
    refine DH.pure (i := 0) [(5, _, none)] rfl rfl rfl rfl ⟨⟨rfl, by kernel_rfl⟩, trivial⟩ (fun _ ext => TL.move hF rfl rfl TL.fin) ?_
    refine DH.pure (i := 1) [(6, _, none)] rfl rfl rfl rfl ⟨⟨rfl, by kernel_rfl⟩, trivial⟩ (fun _ ext => TL.move hF rfl rfl TL.fin) ?_
    refine DH.pure (i := 2) [(1, _, none)] rfl rfl rfl rfl ⟨⟨rfl, by kernel_rfl⟩, trivial⟩ (fun _ ext => TL.move hF rfl rfl TL.fin) ?_
    refine DH.pure (i := 3) [(0, _, none)] rfl rfl rfl rfl ⟨⟨rfl, by kernel_rfl⟩, trivial⟩ (fun _ ext => TL.move hF rfl rfl TL.fin) ?_
    refine DH.pure (i := 4) [(6, _, none)] rfl rfl rfl rfl ⟨⟨rfl, by kernel_rfl⟩, trivial⟩ (fun _ ext => TL.move hF rfl rfl TL.fin) ?_
    refine DH.pure (i := 5) [(20, _, some 3), (21, _, some 4)] rfl rfl rfl rfl ⟨⟨rfl, rfl, rfl⟩, ⟨rfl, rfl, rfl⟩, trivial⟩ (fun _ ext => TL.indexAddr hF rfl rfl (hx.adi (i := j) (by simp; omega)) (by omega) (by omega) rfl TL.fin) ?_
    refine DH.read (i := 6) [(22, _, some 5)] rfl rfl rfl rfl ⟨⟨rfl, rfl, rfl⟩, trivial⟩ (fun ext => TL.load hF rfl (v := .int .i64 (m : Int)) (by rw [← hme]; exact (hx.up upc).int (i := j) hjl) rfl TL.fin) ?_
    refine DH.pure (i := 7) [(19, _, some 2), (23, _, some 6)] rfl rfl rfl rfl ⟨⟨rfl, rfl, rfl⟩, ⟨rfl, rfl, rfl⟩, trivial⟩ (fun _ ext => TL.remN hF (a := q) (b := m) rfl rfl hm0 rfl TL.fin) ?_
    refine DH.pure (i := 8) [(1, _, none)] rfl rfl rfl rfl ⟨⟨rfl, by kernel_rfl⟩, trivial⟩ (fun _ ext => TL.move hF rfl rfl TL.fin) ?_
    refine DH.pure (i := 9) [(0, _, none)] rfl rfl rfl rfl ⟨⟨rfl, by kernel_rfl⟩, trivial⟩ (fun _ ext => TL.move hF rfl rfl TL.fin) ?_
    refine DH.pure (i := 10) [(6, _, none)] rfl rfl rfl rfl ⟨⟨rfl, by kernel_rfl⟩, trivial⟩ (fun _ ext => TL.move hF rfl rfl TL.fin) ?_
    refine DH.pure (i := 11) [(26, _, some 9), (27, _, some 10)] rfl rfl rfl rfl ⟨⟨rfl, rfl, rfl⟩, ⟨rfl, rfl, rfl⟩, trivial⟩ (fun _ ext => TL.indexAddr hF rfl rfl (hx.adi (i := j) (by simp; omega)) (by omega) (by omega) rfl TL.fin) ?_
    refine DH.read (i := 12) [(28, _, some 11)] rfl rfl rfl rfl ⟨⟨rfl, rfl, rfl⟩, trivial⟩ (fun ext => TL.load hF rfl (v := .int .i64 (m : Int)) (by rw [← hme]; exact (hx.up upc).int (i := j) hjl) rfl TL.fin) ?_
    refine DH.pure (i := 13) [(25, _, some 8), (29, _, some 12)] rfl rfl rfl rfl ⟨⟨rfl, rfl, rfl⟩, ⟨rfl, rfl, rfl⟩, trivial⟩ (fun _ ext => TL.quoN hF (a := q) (b := m) rfl rfl hm0 (wrap_nat (Nat.le_trans (Nat.div_le_self q m) (by omega))) rfl TL.fin) ?_
    refine DH.pure (i := 14) [(17, _, some 0), (18, _, some 1)] rfl rfl rfl rfl ⟨⟨rfl, rfl, rfl⟩, ⟨rfl, rfl, rfl⟩, trivial⟩ (fun _ ext => TL.indexAddr hF rfl rfl ⟨_, rfl, rfl⟩ (by omega) (by omega) rfl TL.fin) ?_
    refine DH.k1 (by kernel_rfl) (by kernel_rfl) (by kernel_rfl) (by kernel_rfl) (HBK.mk (h := 15) [] [(31, _, some 14), (24, _, some 7)] rfl rfl rfl ⟨⟨rfl, rfl, rfl⟩, ⟨rfl, rfl, rfl⟩, trivial⟩ (by kernel_rfl) (fun ext => ?_))
    refine TL.storeI hF 0 rfl rfl rfl rfl (by simp [intC_len]; omega) ?_
    refine TL.finKN trivial ?_
    refine DH.done [(31, _), (30, _), (29, _), (28, _), (27, _), (26, _), (25, _), (24, _), (23, _), (22, _), (21, _), (20, _), (19, _), (18, _), (17, _)] [_] (by kernel_rfl) (by kernel_rfl) (by kernel_rfl) (by kernel_rfl) rfl rfl ?_
    refine TL.assign hF rfl rfl ?_
    refine TL.nil ?_
    refine TQ.block_n ?_
    refine TQ.then_n ?_
    refine T.region ?_
    refine TL.move hF rfl rfl ?_
    refine TL.sub hF rfl rfl (by omega) (by omega) rfl ?_
    refine TL.assign hF rfl rfl ?_
    refine TL.nil ?_
    refine TQ.round j (by omega) (by omega) ⟨rfl, ?_, rfl, rfl, trivial⟩ (iseg_set (j := j) (by simp) (fun x hx2 => ?_))
    · show _ = some (Value.int .i64 ((i / prodN (nsz (sizes.drop j)) : Nat) : Int))
      rw [hcs]; rfl
    · unfold tmF
      by_cases e : x = j
      · subst e; rw [if_pos (by omega), if_pos rfl, hget]
      · rw [if_neg e]
        by_cases h2 : j ≤ x
        · rw [if_pos h2, if_pos (by omega)]
        · rw [if_neg h2, if_neg (by omega)]
  · refine T.exit ?_
    refine TQ.then_x ?_
    refine TQ.then_x ?_
    refine TQ.block_x ?_
    refine TQ.then_n ?_
    refine T.seq ?_
    refine T.region ?_
    refine TL.move hF rfl rfl ?_
    refine TL.assign hF rfl rfl ?_
    refine TL.nil ?_
    refine TQ.then_n ?_
    refine T.ret ?_
    refine TQ.rets [4] _ rfl rfl rfl ?_
    have hk0 : k = 0 := by omega
    subst hk0
    exact ⟨b9, rfl, iseg_congr fun j hj => by unfold tmF; rw [if_pos (Nat.zero_le _)]⟩
end Go.Proofs.YteimjjpigohnhaaGreat
/- Sums and Changes, by the specification. -/
namespace Go.Proofs.YteimjjpigohnhaaGreat
open Go.Sl
variable {S : Nat → Prop} {w0 : World} {η : Heap}
theorem Time_row {a : Option Addr} {sizes : List Int} {c i : Nat} (hx : Row S w0 η a (ints sizes)) (hl : sizes.length ≤ 4) (hok : sizes.all szOk = true) (hi : i < 9223372036854775807) : Rt Tryz.prog 108 [.slice a sizes.length c, .int .i64 (i : Int)].toArray S w0 η (fun v η' => ∃ g, v = .slice (some ⟨g, 0, none⟩) sizes.length sizes.length ∧ η' = [(g, Obj.cells (ints (tmZ sizes i)).toArray 3 (0, 0))] :: η) := by
  refine (Time_ref (c := c) hx hl hok hi).mono ?_
  rintro v η' ⟨g, rfl, rfl⟩
  refine ⟨g, rfl, ?_⟩
  rw [ints_intC, tmZ_len]
theorem linesE_of {sizes l : List Int} : linesE sizes l = if cellsS sizes < 0 then 1 else if (l.length : Int) = cellsS sizes then 0 else 2 := rfl
def leZ (sizes : List Int) (k i : Nat) : Bool := leN (tmN (nsz sizes) k) (tmN (nsz sizes) i)
theorem tle_leZ (sizes : List Int) (k i : Nat) : tle (tmZ sizes k) (tmZ sizes i) = leZ sizes k i := tle_tmZ _ _
/-- A box that numbers fill. -/
theorem lines_box {sizes l : List Int} (h : linesE sizes l = 0) : sizes.length ≤ 4 ∧ sizes.all szOk = true ∧ prodN (nsz sizes) = l.length ∧ l.length ≤ 4096 := by
  unfold linesE at h
  by_cases h1 : cellsS sizes < 0
  · rw [if_pos h1] at h; cases h
  · rw [if_neg h1] at h
    by_cases h2 : (l.length : Int) = cellsS sizes
    · obtain ⟨hlen, hall, hpr, hcp⟩ := cellsS_ok (l := sizes) (by omega)
      have := nsz_prod hall
      exact ⟨hlen.2, hall, by omega, by omega⟩
    · rw [if_neg h2] at h; cases h
theorem sums_at {sizes l : List Int} (h : linesE sizes l = 0) {i : Nat} (hi : i < l.length) : wr (sumN (i + 1) fun k => if leZ sizes k i = true then getI l k else 0) = wr (sumsS (nsz sizes) (getI l) i) := by
  obtain ⟨_, hall, hp, _⟩ := lines_box h
  have hpos := nsz_pos hall
  rw [sums_box hpos (by omega), boxS_self hpos (by omega)]
  simp only [sumN]
  have e : leZ sizes i i = true := leN_refl _
  rw [if_pos e]; rfl
theorem difs_at {sizes l : List Int} (h : linesE sizes l = 0) {i : Nat} (hi : i < l.length) : wr (getI l i - sumN i fun k => if leZ sizes k i = true then wr (difsS (nsz sizes) (getI l) k) else 0) = wr (difsS (nsz sizes) (getI l) i) := by
  obtain ⟨_, hall, hp, _⟩ := lines_box h
  have hpos := nsz_pos hall
  have h1 := box_difs hpos (i := i) (by omega) (getI l)
  rw [boxS_self hpos (by omega)] at h1
  have e : wr (sumN i fun k => if leZ sizes k i = true then wr (difsS (nsz sizes) (getI l) k) else 0) = wr (sumN i fun k => if leZ sizes k i = true then difsS (nsz sizes) (getI l) k else 0) := sumN_wr2 fun k _ => by
    split
    · exact wr_wr _
    · rfl
  rw [← wr_subR, e, wr_subR]
  congr 1
  have h2 : sumN i (fun k => if leZ sizes k i = true then difsS (nsz sizes) (getI l) k else 0) = sumN i fun k => if leN (tmN (nsz sizes) k) (tmN (nsz sizes) i) = true then difsS (nsz sizes) (getI l) k else 0 := rfl
  rw [h2]; omega
set_option maxHeartbeats 2000000 in
theorem Sums_ref {a b : Option Addr} {sizes l : List Int} {c d : Nat} (hx : Row S w0 η a (ints sizes)) (hy : Row S w0 η b (ints l)) (hl : sizes.length < 2 ^ 63) (hl2 : l.length < 2 ^ 63) (_hw : Wd l) :
    Rt Tryz.prog 53 [.slice a sizes.length c, .slice b l.length d].toArray S w0 η (ResT S w0 (sumsP sizes l) η) := by
  have hF := open_wide
  refine Rt.of (fn := Tryz.f53) Tryz.func53 rfl rfl ?_
  refine T.seq ?_
  refine T.region ?_
  refine TL.assign hF rfl rfl ?_
  refine TL.assign hF rfl rfl ?_
  refine TL.nil ?_
  refine TQ.then_n ?_
  refine T.seq ?_
  refine T.region ?_
  refine TL.move hF rfl rfl ?_
  refine TL.callV hF (cells_ref hx hl) rfl rfl ?_
  refine TL.assign hF rfl rfl ?_
  refine TL.nil ?_
  refine TQ.then_n ?_
  refine T.seq ?_
  refine T.seq ?_
  refine T.region ?_
  refine TL.move hF rfl rfl ?_
  refine TL.bin hF rfl rfl rfl rfl ?_
  refine TL.nil ?_
  refine TQ.then_n ?_
  first | refine T.cond_d rfl (fun ht14 => ?_) (fun ht14 => ?_) | refine T.cond _ rfl (fun ht14 => ?_) (fun ht14 => ?_)
  · refine T.seq ?_
    refine T.region ?_
    refine TL.assign hF rfl rfl ?_
    refine TL.assign hF rfl rfl ?_
    refine TL.nil ?_
    refine TQ.then_n ?_
    refine T.ret ?_
    refine TQ.then_r ?_
    refine TQ.rets [4, 5] _ rfl rfl rfl ?_
    have e : sumsP sizes l = ([], 1) := by unfold sumsP boxL; rw [if_neg (by rw [linesE_of, if_pos (by omega)]; decide), linesE_of, if_pos (by omega)]
    rw [e]
    exact ⟨none, 0, [], rfl, Row.none, rfl⟩
  · refine T.skip ?_
    refine TQ.then_n ?_
    refine T.seq ?_
    refine T.seq ?_
    refine T.region ?_
    refine TL.move hF rfl rfl ?_
    refine TL.len hF rfl rfl ?_
    refine TL.move hF rfl rfl ?_
    refine TL.bin hF rfl rfl rfl rfl ?_
    refine TL.nil ?_
    refine TQ.then_n ?_
    first | refine T.cond_d rfl (fun ht18 => ?_) (fun ht18 => ?_) | refine T.cond _ rfl (fun ht18 => ?_) (fun ht18 => ?_)
    · refine T.seq ?_
      refine T.region ?_
      refine TL.assign hF rfl rfl ?_
      refine TL.assign hF rfl rfl ?_
      refine TL.nil ?_
      refine TQ.then_n ?_
      refine T.ret ?_
      refine TQ.then_r ?_
      refine TQ.rets [4, 5] _ rfl rfl rfl ?_
      have e0 : linesE sizes l = 2 := by rw [linesE_of, if_neg (by omega), if_neg (by omega)]
      have e : sumsP sizes l = ([], 2) := by unfold sumsP boxL; rw [if_neg (by rw [e0]; decide), e0]
      rw [e]
      exact ⟨none, 0, [], rfl, Row.none, rfl⟩
    · refine T.skip ?_
      refine TQ.then_n ?_
      refine T.seq ?_
      refine T.region ?_
      refine TL.buildSlice hF rfl (cs := #[]) (e := 3) (fun w => by kernel_rfl) rfl (fun b19 => ?_)
      refine TL.assign hF rfl rfl ?_
      refine TL.nil ?_
      refine TQ.then_n ?_
      refine T.seq ?_
      refine T.seq ?_
      refine T.region ?_
      refine TL.assign hF rfl rfl ?_
      refine TL.nil ?_
      refine TQ.then_n ?_
      refine T.block ?_
      have hE : linesE sizes l = 0 := by unfold linesE; rw [if_neg (by omega), if_pos (by omega)]
      obtain ⟨hl4, hok, hpr, hl5⟩ := lines_box hE
      have hce : cellsS sizes = (l.length : Int) := by omega
      rw [hce]
      refine T.loop (ι := Nat × Option Addr × Nat × Seg) (fun s => match s with | (i, oa, oc, og) => i ≤ l.length ∧ OSl 3 1 (.slice oa i oc) i (ints ((List.range i).map fun i => wr (sumsS (nsz sizes) (getI l) i))) og) (fun s => match s with | (i, oa, oc, og) => [(0, .slice a sizes.length c), (1, .slice b l.length d), (6, .int .i64 (l.length : Int)), (7, .slice oa i oc), (8, .int .i64 (i : Int))]) (fun s => match s with | (i, oa, oc, og) => og :: η) (fun s => l.length - s.1) (0, some ⟨b19, 0, none⟩, 0, _) ⟨Nat.zero_le _, osl_empty⟩ ⟨rfl, rfl, rfl, rfl, rfl, trivial⟩ rfl ?_
      rintro ⟨i, oa, oc, og⟩ ⟨hi, ho⟩
      refine T.seq ?_
      refine T.seq ?_
      refine T.region ?_
      refine TL.move hF rfl rfl ?_
      refine TL.move hF rfl rfl ?_
      refine TL.bin hF rfl rfl rfl rfl ?_
      refine TL.nil ?_
      refine TQ.then_n ?_
      first | refine T.cond_d rfl (fun ht22 => ?_) (fun ht22 => ?_) | refine T.cond _ rfl (fun ht22 => ?_) (fun ht22 => ?_)
      · refine T.skip ?_
        refine TQ.then_n ?_
        refine T.seq ?_
        refine T.block ?_
        refine T.seq ?_
        refine T.region ?_
        refine TL.assign hF rfl rfl ?_
        refine TL.nil ?_
        refine TQ.then_n ?_
        refine T.seq ?_
        refine T.seq ?_
        refine T.region ?_
        refine TL.assign hF rfl rfl ?_
        refine TL.nil ?_
        refine TQ.then_n ?_
        refine T.block ?_
        have hil : i < l.length := by omega
        refine T.loop (ι := Nat) (fun k => k ≤ i + 1) (fun k => [(0, .slice a sizes.length c), (1, .slice b l.length d), (6, .int .i64 (l.length : Int)), (7, .slice oa i oc), (8, .int .i64 (i : Int)), (9, .int .i64 (wr (sumN (k) fun k => if leZ sizes k i = true then getI l k else 0))), (10, .int .i64 (k : Int))]) (fun _ => og :: η) (fun k => i + 1 - k) 0 (Nat.zero_le _) ⟨rfl, rfl, rfl, rfl, rfl, rfl, rfl, trivial⟩ rfl ?_
        intro k hk
        refine T.seq ?_
        refine T.seq ?_
        refine T.region ?_
        refine TL.move hF rfl rfl ?_
        refine TL.move hF rfl rfl ?_
        refine TL.bin hF rfl rfl rfl rfl ?_
        refine TL.nil ?_
        refine TQ.then_n ?_
        first | refine T.cond_d rfl (fun ht27 => ?_) (fun ht27 => ?_) | refine T.cond _ rfl (fun ht27 => ?_) (fun ht27 => ?_)
        · refine T.skip ?_
          refine TQ.then_n ?_
          refine T.seq ?_
          refine T.block ?_
          refine T.seq ?_
          refine T.region ?_
          refine TL.move hF rfl rfl ?_
          refine TL.move hF rfl rfl ?_
          refine TL.call hF (Time_row (i := k) (hx.up upc) hl4 hok (by omega)) rfl rfl ?_
          rintro _ _ ⟨g1, rfl, rfl⟩
          refine TL.move hF rfl rfl ?_
          refine TL.move hF rfl rfl ?_
          refine TL.call hF (Time_row (i := i) (hx.up (fun z hz => upc _ (upc _ hz))) hl4 hok (by omega)) rfl rfl ?_
          rintro _ _ ⟨g2, rfl, rfl⟩
          have hq := AtOrBefore_fn (η := [(g2, Obj.cells (ints (tmZ sizes i)).toArray 3 (0, 0))] :: [(g1, Obj.cells (ints (tmZ sizes k)).toArray 3 (0, 0))] :: og :: η) (S := S) (w0 := w0) (c := sizes.length) (d := sizes.length) (row_own (b := g1) (cs := ints (tmZ sizes k)) (e := 3) (by simp)) (row_own (b := g2) (cs := ints (tmZ sizes i)) (e := 3) (by simp)) (by rw [tmZ_len, tmZ_len]) (by rw [tmZ_len]; omega)
          rw [tmZ_len, tmZ_len, tle_leZ] at hq
          refine TL.callV hF hq rfl rfl ?_
          refine TL.hsub (og :: η) (List.Sublist.cons _ (List.sublist_cons_self _ _)) ?_
          refine TL.nil ?_
          refine TQ.then_n ?_
          refine T.cond _ rfl (fun hle => ?_) (fun hle => ?_)
          · refine T.region ?_
            refine TL.move hF rfl rfl ?_
            refine TL.move hF rfl rfl ?_
            refine TL.move hF rfl rfl ?_
            refine TL.indexAddr hF rfl rfl (hy.adi (i := k) (by simp; omega)) (by omega) (by omega) rfl ?_
            refine TL.load hF rfl ((hy.up upc).int (i := k) (by omega)) rfl ?_
            have hkl : k < l.length := by omega
            refine TL.addK hF rfl rfl (r := wr (wr (sumN (k) fun k => if leZ sizes k i = true then getI l k else 0) + l[k])) (wrap_wr _) rfl ?_
            refine TL.assign hF rfl rfl ?_
            refine TL.nil ?_
            refine TQ.block_n ?_
            refine TQ.then_n ?_
            refine T.region ?_
            refine TL.move hF rfl rfl ?_
            refine TL.add hF rfl rfl (by omega) (by omega) rfl ?_
            refine TL.assign hF rfl rfl ?_
            refine TL.nil ?_
            refine TQ.round (k + 1) (by omega) (by omega) ⟨rfl, rfl, rfl, rfl, rfl, congrArg (fun z => some (Value.int .i64 z)) ?_, rfl, trivial⟩ rfl
            have e1 : getI l k = l[k] := by unfold getI; rw [List.getD_eq_getElem?_getD, List.getElem?_eq_getElem hkl]; rfl
            simp only [sumN]; rw [if_pos hle, e1, wr_addL]
          · refine T.skip ?_
            refine TQ.block_n ?_
            refine TQ.then_n ?_
            refine T.region ?_
            refine TL.move hF rfl rfl ?_
            refine TL.add hF rfl rfl (by omega) (by omega) rfl ?_
            refine TL.assign hF rfl rfl ?_
            refine TL.nil ?_
            refine TQ.round (k + 1) (by omega) (by omega) ⟨rfl, rfl, rfl, rfl, rfl, congrArg (fun z => some (Value.int .i64 z)) ?_, rfl, trivial⟩ rfl
            simp only [sumN]; rw [if_neg (by rw [hle]; decide), Int.add_zero]
        · refine T.exit ?_
          refine TQ.then_x ?_
          refine TQ.then_x ?_
          refine TQ.block_x ?_
          refine TQ.then_n ?_
          refine T.region ?_
          refine TL.move hF rfl rfl ?_
          refine TL.move hF rfl rfl ?_
          have hk2 : k = i + 1 := by omega
          rw [hk2, sums_at hE hil]
          refine TL.buildSlice hF rfl (cs := #[.int .i64 (wr (sumsS (nsz sizes) (getI l) i))]) (e := 3) (fun w => by kernel_rfl) rfl (fun b45 => ?_)
          refine TL.append hF 1 rfl rfl rfl ho (row_own (cs := [.int .i64 (wr (sumsS (nsz sizes) (getI l) i))]) (e := 3) (by simp)).src rfl rfl (by simp [Value.oneCell']) (by omega) (by omega) rfl (fun a' cap' seg' ho' => ?_)
          refine TL.assign hF rfl rfl ?_
          refine TL.nil ?_
          refine TQ.block_n ?_
          refine TQ.then_n ?_
          refine T.region ?_
          refine TL.move hF rfl rfl ?_
          refine TL.add hF rfl rfl (by omega) (by omega) rfl ?_
          refine TL.assign hF rfl rfl ?_
          refine TL.nil ?_
          refine TQ.pop ?_
          refine TQ.round (i + 1, a', cap', seg') ⟨by omega, ?_⟩ (by dsimp only; omega) ⟨rfl, rfl, rfl, rfl, rfl, trivial⟩ rfl
          have e : ints ((List.range (i + 1)).map fun i => wr (sumsS (nsz sizes) (getI l) i)) = ints ((List.range i).map fun i => wr (sumsS (nsz sizes) (getI l) i)) ++ [.int .i64 (wr (sumsS (nsz sizes) (getI l) i))] := by rw [List.range_succ, List.map_append]; unfold ints; rw [List.map_append]; rfl
          rw [e]; exact ho'
      · refine T.exit ?_
        refine TQ.then_x ?_
        refine TQ.then_x ?_
        refine TQ.block_x ?_
        refine TQ.then_n ?_
        refine T.seq ?_
        refine T.region ?_
        refine TL.move hF rfl rfl ?_
        refine TL.assign hF rfl rfl ?_
        refine TL.assign hF rfl rfl ?_
        refine TL.nil ?_
        refine TQ.then_n ?_
        refine T.ret ?_
        refine TQ.rets [4, 5] _ rfl rfl rfl ?_
        have hkn : i = l.length := by omega
        subst hkn
        have e : sumsP sizes l = (((List.range l.length).map fun i => wr (sumsS (nsz sizes) (getI l) i)), 0) := by unfold sumsP boxL; rw [if_pos hE]
        rw [e]
        exact ⟨oa, oc, [og], by simp; rfl, ho.row List.mem_cons_self, rfl⟩
set_option maxHeartbeats 2000000 in
theorem Changes_ref {a b : Option Addr} {sizes l : List Int} {c d : Nat} (hx : Row S w0 η a (ints sizes)) (hy : Row S w0 η b (ints l)) (hl : sizes.length < 2 ^ 63) (hl2 : l.length < 2 ^ 63) (hw : Wd l) :
    Rt Tryz.prog 54 [.slice a sizes.length c, .slice b l.length d].toArray S w0 η (ResT S w0 (difsP sizes l) η) := by
  have hF := open_wide
  refine Rt.of (fn := Tryz.f54) Tryz.func54 rfl rfl ?_
  refine T.seq ?_
  refine T.region ?_
  refine TL.assign hF rfl rfl ?_
  refine TL.assign hF rfl rfl ?_
  refine TL.nil ?_
  refine TQ.then_n ?_
  refine T.seq ?_
  refine T.region ?_
  refine TL.move hF rfl rfl ?_
  refine TL.callV hF (cells_ref hx hl) rfl rfl ?_
  refine TL.assign hF rfl rfl ?_
  refine TL.nil ?_
  refine TQ.then_n ?_
  refine T.seq ?_
  refine T.seq ?_
  refine T.region ?_
  refine TL.move hF rfl rfl ?_
  refine TL.bin hF rfl rfl rfl rfl ?_
  refine TL.nil ?_
  refine TQ.then_n ?_
  first | refine T.cond_d rfl (fun ht14 => ?_) (fun ht14 => ?_) | refine T.cond _ rfl (fun ht14 => ?_) (fun ht14 => ?_)
  · refine T.seq ?_
    refine T.region ?_
    refine TL.assign hF rfl rfl ?_
    refine TL.assign hF rfl rfl ?_
    refine TL.nil ?_
    refine TQ.then_n ?_
    refine T.ret ?_
    refine TQ.then_r ?_
    refine TQ.rets [4, 5] _ rfl rfl rfl ?_
    have e : difsP sizes l = ([], 1) := by unfold difsP boxL; rw [if_neg (by rw [linesE_of, if_pos (by omega)]; decide), linesE_of, if_pos (by omega)]
    rw [e]
    exact ⟨none, 0, [], rfl, Row.none, rfl⟩
  · refine T.skip ?_
    refine TQ.then_n ?_
    refine T.seq ?_
    refine T.seq ?_
    refine T.region ?_
    refine TL.move hF rfl rfl ?_
    refine TL.len hF rfl rfl ?_
    refine TL.move hF rfl rfl ?_
    refine TL.bin hF rfl rfl rfl rfl ?_
    refine TL.nil ?_
    refine TQ.then_n ?_
    first | refine T.cond_d rfl (fun ht18 => ?_) (fun ht18 => ?_) | refine T.cond _ rfl (fun ht18 => ?_) (fun ht18 => ?_)
    · refine T.seq ?_
      refine T.region ?_
      refine TL.assign hF rfl rfl ?_
      refine TL.assign hF rfl rfl ?_
      refine TL.nil ?_
      refine TQ.then_n ?_
      refine T.ret ?_
      refine TQ.then_r ?_
      refine TQ.rets [4, 5] _ rfl rfl rfl ?_
      have e0 : linesE sizes l = 2 := by rw [linesE_of, if_neg (by omega), if_neg (by omega)]
      have e : difsP sizes l = ([], 2) := by unfold difsP boxL; rw [if_neg (by rw [e0]; decide), e0]
      rw [e]
      exact ⟨none, 0, [], rfl, Row.none, rfl⟩
    · refine T.skip ?_
      refine TQ.then_n ?_
      refine T.seq ?_
      refine T.region ?_
      refine TL.buildSlice hF rfl (cs := #[]) (e := 3) (fun w => by kernel_rfl) rfl (fun b19 => ?_)
      refine TL.assign hF rfl rfl ?_
      refine TL.nil ?_
      refine TQ.then_n ?_
      refine T.seq ?_
      refine T.seq ?_
      refine T.region ?_
      refine TL.assign hF rfl rfl ?_
      refine TL.nil ?_
      refine TQ.then_n ?_
      refine T.block ?_
      have hE : linesE sizes l = 0 := by unfold linesE; rw [if_neg (by omega), if_pos (by omega)]
      obtain ⟨hl4, hok, hpr, hl5⟩ := lines_box hE
      have hce : cellsS sizes = (l.length : Int) := by omega
      rw [hce]
      refine T.loop (ι := Nat × Option Addr × Nat × Seg) (fun s => match s with | (i, oa, oc, og) => i ≤ l.length ∧ OSl 3 1 (.slice oa i oc) i (ints ((List.range i).map fun i => wr (difsS (nsz sizes) (getI l) i))) og) (fun s => match s with | (i, oa, oc, og) => [(0, .slice a sizes.length c), (1, .slice b l.length d), (6, .int .i64 (l.length : Int)), (7, .slice oa i oc), (8, .int .i64 (i : Int))]) (fun s => match s with | (i, oa, oc, og) => og :: η) (fun s => l.length - s.1) (0, some ⟨b19, 0, none⟩, 0, _) ⟨Nat.zero_le _, osl_empty⟩ ⟨rfl, rfl, rfl, rfl, rfl, trivial⟩ rfl ?_
      rintro ⟨i, oa, oc, og⟩ ⟨hi, ho⟩
      refine T.seq ?_
      refine T.seq ?_
      refine T.region ?_
      refine TL.move hF rfl rfl ?_
      refine TL.move hF rfl rfl ?_
      refine TL.bin hF rfl rfl rfl rfl ?_
      refine TL.nil ?_
      refine TQ.then_n ?_
      first | refine T.cond_d rfl (fun ht22 => ?_) (fun ht22 => ?_) | refine T.cond _ rfl (fun ht22 => ?_) (fun ht22 => ?_)
      · refine T.skip ?_
        refine TQ.then_n ?_
        refine T.seq ?_
        refine T.block ?_
        refine T.seq ?_
        refine T.region ?_
        refine TL.move hF rfl rfl ?_
        refine TL.move hF rfl rfl ?_
        refine TL.indexAddr hF rfl rfl (hy.adi (i := i) (by simp; omega)) (by omega) (by omega) rfl ?_
        refine TL.load hF rfl ((hy.up upc).int (i := i) (by omega)) rfl ?_
        refine TL.assign hF rfl rfl ?_
        refine TL.nil ?_
        refine TQ.then_n ?_
        refine T.seq ?_
        refine T.seq ?_
        refine T.region ?_
        refine TL.assign hF rfl rfl ?_
        refine TL.nil ?_
        refine TQ.then_n ?_
        refine T.block ?_
        have hil : i < l.length := by omega
        refine T.loop (ι := Nat) (fun k => k ≤ i) (fun k => [(0, .slice a sizes.length c), (1, .slice b l.length d), (6, .int .i64 (l.length : Int)), (7, .slice oa i oc), (8, .int .i64 (i : Int)), (9, .int .i64 (wr (getI l i - sumN (k) fun k => if leZ sizes k i = true then wr (difsS (nsz sizes) (getI l) k) else 0))), (10, .int .i64 (k : Int))]) (fun _ => og :: η) (fun k => i - k) 0 (Nat.zero_le _) ⟨rfl, rfl, rfl, rfl, rfl, (by
            have h1 := hw l[i] (List.getElem_mem hil)
            show some (Value.int .i64 l[i]) = some (Value.int .i64 (wr (getI l i - 0)))
            rw [Int.sub_zero]; unfold getI
            rw [List.getD_eq_getElem?_getD, List.getElem?_eq_getElem hil, Option.getD_some, wr_id h1.1 h1.2]), rfl, trivial⟩ rfl ?_
        intro k hk
        refine T.seq ?_
        refine T.seq ?_
        refine T.region ?_
        refine TL.move hF rfl rfl ?_
        refine TL.move hF rfl rfl ?_
        refine TL.bin hF rfl rfl rfl rfl ?_
        refine TL.nil ?_
        refine TQ.then_n ?_
        first | refine T.cond_d rfl (fun ht31 => ?_) (fun ht31 => ?_) | refine T.cond _ rfl (fun ht31 => ?_) (fun ht31 => ?_)
        · refine T.skip ?_
          refine TQ.then_n ?_
          refine T.seq ?_
          refine T.block ?_
          refine T.seq ?_
          refine T.region ?_
          refine TL.move hF rfl rfl ?_
          refine TL.move hF rfl rfl ?_
          refine TL.call hF (Time_row (i := k) (hx.up upc) hl4 hok (by omega)) rfl rfl ?_
          rintro _ _ ⟨g1, rfl, rfl⟩
          refine TL.move hF rfl rfl ?_
          refine TL.move hF rfl rfl ?_
          refine TL.call hF (Time_row (i := i) (hx.up (fun z hz => upc _ (upc _ hz))) hl4 hok (by omega)) rfl rfl ?_
          rintro _ _ ⟨g2, rfl, rfl⟩
          have hq := AtOrBefore_fn (η := [(g2, Obj.cells (ints (tmZ sizes i)).toArray 3 (0, 0))] :: [(g1, Obj.cells (ints (tmZ sizes k)).toArray 3 (0, 0))] :: og :: η) (S := S) (w0 := w0) (c := sizes.length) (d := sizes.length) (row_own (b := g1) (cs := ints (tmZ sizes k)) (e := 3) (by simp)) (row_own (b := g2) (cs := ints (tmZ sizes i)) (e := 3) (by simp)) (by rw [tmZ_len, tmZ_len]) (by rw [tmZ_len]; omega)
          rw [tmZ_len, tmZ_len, tle_leZ] at hq
          refine TL.callV hF hq rfl rfl ?_
          refine TL.hsub (og :: η) (List.Sublist.cons _ (List.sublist_cons_self _ _)) ?_
          refine TL.nil ?_
          refine TQ.then_n ?_
          refine T.cond _ rfl (fun hle => ?_) (fun hle => ?_)
          · refine T.region ?_
            refine TL.move hF rfl rfl ?_
            refine TL.move hF rfl rfl ?_
            refine TL.move hF rfl rfl ?_
            refine TL.indexAddr hF rfl rfl ((ho.row (S := S) (w0 := w0) (η := og :: η) List.mem_cons_self).adi (i := k) (by simp [ints]; omega)) (by omega) (by omega) rfl ?_
            refine TL.load hF rfl ((ho.row (S := S) (w0 := w0) (η := og :: η) List.mem_cons_self).int (i := k) (by simp; omega)) rfl ?_
            simp only [List.getElem_map, List.getElem_range]
            refine TL.subK hF rfl rfl (r := wr (wr (getI l i - sumN (k) fun k => if leZ sizes k i = true then wr (difsS (nsz sizes) (getI l) k) else 0) - wr (difsS (nsz sizes) (getI l) k))) (wrap_wr _) rfl ?_
            refine TL.assign hF rfl rfl ?_
            refine TL.nil ?_
            refine TQ.block_n ?_
            refine TQ.then_n ?_
            refine T.region ?_
            refine TL.move hF rfl rfl ?_
            refine TL.add hF rfl rfl (by omega) (by omega) rfl ?_
            refine TL.assign hF rfl rfl ?_
            refine TL.nil ?_
            refine TQ.round (k + 1) (by omega) (by omega) ⟨rfl, rfl, rfl, rfl, rfl, congrArg (fun z => some (Value.int .i64 z)) ?_, rfl, trivial⟩ rfl
            simp only [sumN]; rw [if_pos hle, wr_subL]
            congr 1
            omega
          · refine T.skip ?_
            refine TQ.block_n ?_
            refine TQ.then_n ?_
            refine T.region ?_
            refine TL.move hF rfl rfl ?_
            refine TL.add hF rfl rfl (by omega) (by omega) rfl ?_
            refine TL.assign hF rfl rfl ?_
            refine TL.nil ?_
            refine TQ.round (k + 1) (by omega) (by omega) ⟨rfl, rfl, rfl, rfl, rfl, congrArg (fun z => some (Value.int .i64 z)) ?_, rfl, trivial⟩ rfl
            simp only [sumN]; rw [if_neg (by rw [hle]; decide), Int.add_zero]
        · refine T.exit ?_
          refine TQ.then_x ?_
          refine TQ.then_x ?_
          refine TQ.block_x ?_
          refine TQ.then_n ?_
          refine T.region ?_
          refine TL.move hF rfl rfl ?_
          refine TL.move hF rfl rfl ?_
          have hk2 : k = i := by omega
          rw [hk2, difs_at hE hil]
          refine TL.buildSlice hF rfl (cs := #[.int .i64 (wr (difsS (nsz sizes) (getI l) i))]) (e := 3) (fun w => by kernel_rfl) rfl (fun b45 => ?_)
          refine TL.append hF 1 rfl rfl rfl ho (row_own (cs := [.int .i64 (wr (difsS (nsz sizes) (getI l) i))]) (e := 3) (by simp)).src rfl rfl (by simp [Value.oneCell']) (by omega) (by omega) rfl (fun a' cap' seg' ho' => ?_)
          refine TL.assign hF rfl rfl ?_
          refine TL.nil ?_
          refine TQ.block_n ?_
          refine TQ.then_n ?_
          refine T.region ?_
          refine TL.move hF rfl rfl ?_
          refine TL.add hF rfl rfl (by omega) (by omega) rfl ?_
          refine TL.assign hF rfl rfl ?_
          refine TL.nil ?_
          refine TQ.pop ?_
          refine TQ.round (i + 1, a', cap', seg') ⟨by omega, ?_⟩ (by dsimp only; omega) ⟨rfl, rfl, rfl, rfl, rfl, trivial⟩ rfl
          have e : ints ((List.range (i + 1)).map fun i => wr (difsS (nsz sizes) (getI l) i)) = ints ((List.range i).map fun i => wr (difsS (nsz sizes) (getI l) i)) ++ [.int .i64 (wr (difsS (nsz sizes) (getI l) i))] := by rw [List.range_succ, List.map_append]; unfold ints; rw [List.map_append]; rfl
          rw [e]; exact ho'
      · refine T.exit ?_
        refine TQ.then_x ?_
        refine TQ.then_x ?_
        refine TQ.block_x ?_
        refine TQ.then_n ?_
        refine T.seq ?_
        refine T.region ?_
        refine TL.move hF rfl rfl ?_
        refine TL.assign hF rfl rfl ?_
        refine TL.assign hF rfl rfl ?_
        refine TL.nil ?_
        refine TQ.then_n ?_
        refine T.ret ?_
        refine TQ.rets [4, 5] _ rfl rfl rfl ?_
        have hkn : i = l.length := by omega
        subst hkn
        have e : difsP sizes l = (((List.range l.length).map fun i => wr (difsS (nsz sizes) (getI l) i)), 0) := by unfold difsP boxL; rw [if_pos hE]
        rw [e]
        exact ⟨oa, oc, [og], by simp; rfl, ho.row List.mem_cons_self, rfl⟩
end Go.Proofs.YteimjjpigohnhaaGreat
/- Boxes: the program's answers are the specification's. -/
namespace Go.Proofs.YteimjjpigohnhaaGreat
open Go.Sl
variable {S : Nat → Prop} {w0 : World} {η : Heap}
set_option maxRecDepth 8000
theorem boxL_len (F : List Nat → (Nat → Int) → Nat → Int) (s l : List Int) : (boxL F s l).1.length ≤ l.length := by
  unfold boxL; split
  · simp
  · exact Nat.zero_le _
theorem Eq_long {a b : Option Addr} {xs : List Int} {c d : Nat} (hx : Row S w0 η a (ints xs)) (hy : Row S w0 η b (ints xs)) (h4 : xs.length < 2 ^ 63) : Rt Tryz.prog 18 [.slice a xs.length c, .slice b xs.length d].toArray S w0 η (fun v η' => v = .bool true ∧ η' = η) := by
  have h := Equal_fn (ca := c) (cb := d) hx hy h4
  rw [decide_eq_true rfl] at h
  exact h
set_option maxHeartbeats 2000000 in
theorem OrderBoxes_fn {a b : Option Addr} {ss l : List Int} {c d : Nat} (hx : Row S w0 [] a (ints ss)) (hy : Row S w0 [] b (ints l)) (hl : ss.length < 2 ^ 63) (hl2 : l.length < 2 ^ 63) (hw : Wd l) :
    Rt Tryz.prog 8 [.slice a ss.length c, .slice b l.length d].toArray S w0 [] (fun v _ => v = .bool true) := by
  have hF := open_wide
  refine Rt.of (fn := Tryz.f8) Tryz.func8 rfl rfl ?_
  refine T.seq ?_
  refine T.region ?_
  refine TL.assign hF rfl rfl ?_
  refine TL.nil ?_
  refine TQ.then_n ?_
  refine T.seq ?_
  refine T.seq ?_
  refine T.region ?_
  refine TL.move hF rfl rfl ?_
  refine TL.len hF rfl rfl ?_
  refine TL.bin hF rfl rfl rfl rfl ?_
  refine TL.nil ?_
  refine TQ.then_n ?_
  first | refine T.cond_d rfl (fun ht15 => ?_) (fun ht15 => ?_) | refine T.cond _ rfl (fun ht15 => ?_) (fun ht15 => ?_)
  · refine T.seq ?_
    refine T.region ?_
    refine TL.call hF ordered_fn rfl rfl ?_
    rintro _ _ rfl
    refine TL.assign hF rfl rfl ?_
    refine TL.nil ?_
    refine TQ.then_n ?_
    refine T.ret ?_
    refine TQ.then_r ?_
    refine TQ.rets [4] _ rfl rfl rfl ?_
    rfl
  · refine T.skip ?_
    refine TQ.then_n ?_
    refine T.seq ?_
    refine T.region ?_
    refine TL.move hF rfl rfl ?_
    refine TL.move hF rfl rfl ?_
    have hb := Back.refl S w0
    refine TL.call hF (Sums_prog hx.ro hy.ro hl hl2 hw) rfl rfl ?_
    rintro _ _ ⟨a5, c5, segs, rfl, h5, rfl⟩
    refine TL.freeze (segs) rfl (fun S1 w1 hz1 => ?_)
    replace hb := hb.frz hz1
    replace hx := hx.old hz1
    replace hy := hy.old hz1
    replace h5 := h5.frz hz1
    refine TL.move hF rfl rfl ?_
    refine TL.extract hF rfl rfl rfl ?_
    refine TL.extract hF rfl rfl rfl ?_
    refine TL.assign hF rfl rfl ?_
    refine TL.assign hF rfl rfl ?_
    refine TL.nil ?_
    refine TQ.then_n ?_
    refine T.seq ?_
    refine T.region ?_
    refine TL.move hF rfl rfl ?_
    refine TL.move hF rfl rfl ?_
    refine TL.call hF (Sums_ref hx.ro hy.ro hl hl2 hw) rfl rfl ?_
    rintro _ _ ⟨a7, c7, segs, rfl, h7, rfl⟩
    refine TL.freeze (segs) rfl (fun S2 w2 hz2 => ?_)
    replace hb := hb.frz hz2
    replace hx := hx.old hz2
    replace hy := hy.old hz2
    replace h5 := h5.old hz2
    replace h7 := h7.frz hz2
    refine TL.move hF rfl rfl ?_
    refine TL.extract hF rfl rfl rfl ?_
    refine TL.extract hF rfl rfl rfl ?_
    refine TL.assign hF rfl rfl ?_
    refine TL.assign hF rfl rfl ?_
    refine TL.nil ?_
    refine TQ.then_n ?_
    refine T.seq ?_
    refine T.region ?_
    refine TL.move hF rfl rfl ?_
    refine TL.move hF rfl rfl ?_
    refine TL.call hF (Changes_prog hx.ro hy.ro hl hl2 hw) rfl rfl ?_
    rintro _ _ ⟨a9, c9, segs, rfl, h9, rfl⟩
    refine TL.freeze (segs) rfl (fun S3 w3 hz3 => ?_)
    replace hb := hb.frz hz3
    replace hx := hx.old hz3
    replace hy := hy.old hz3
    replace h5 := h5.old hz3
    replace h7 := h7.old hz3
    replace h9 := h9.frz hz3
    refine TL.move hF rfl rfl ?_
    refine TL.extract hF rfl rfl rfl ?_
    refine TL.extract hF rfl rfl rfl ?_
    refine TL.assign hF rfl rfl ?_
    refine TL.assign hF rfl rfl ?_
    refine TL.nil ?_
    refine TQ.then_n ?_
    refine T.seq ?_
    refine T.region ?_
    refine TL.move hF rfl rfl ?_
    refine TL.move hF rfl rfl ?_
    refine TL.call hF (Changes_ref hx.ro hy.ro hl hl2 hw) rfl rfl ?_
    rintro _ _ ⟨a11, c11, segs, rfl, h11, rfl⟩
    refine TL.freeze (segs) rfl (fun S4 w4 hz4 => ?_)
    replace hb := hb.frz hz4
    replace hx := hx.old hz4
    replace hy := hy.old hz4
    replace h5 := h5.old hz4
    replace h7 := h7.old hz4
    replace h9 := h9.old hz4
    replace h11 := h11.frz hz4
    refine TL.move hF rfl rfl ?_
    refine TL.extract hF rfl rfl rfl ?_
    refine TL.extract hF rfl rfl rfl ?_
    refine TL.assign hF rfl rfl ?_
    refine TL.assign hF rfl rfl ?_
    refine TL.nil ?_
    refine TQ.then_n ?_
    refine T.seq ?_
    refine T.region ?_
    refine TL.move hF rfl rfl ?_
    refine TL.move hF rfl rfl ?_
    refine TL.callV hF (Eq_long h5.ro h7.ro (by have := boxL_len sumsS ss l; show (boxL sumsS ss l).1.length < _; omega)) rfl rfl ?_
    refine TL.move hF rfl rfl ?_
    refine TL.on rfl rfl rfl (by simp) ?_
    refine TL.move hF rfl rfl ?_
    refine TL.on rfl rfl rfl (by simp) ?_
    refine TL.move hF rfl rfl ?_
    refine TL.on rfl rfl rfl (by simp) ?_
    refine TL.bin hF rfl rfl rfl rfl ?_
    refine TL.pickT hF rfl (by simp) rfl rfl ?_
    refine TL.move hF rfl rfl ?_
    refine TL.on rfl rfl rfl (by simp) ?_
    refine TL.move hF rfl rfl ?_
    refine TL.on rfl rfl rfl (by simp) ?_
    refine TL.move hF rfl rfl ?_
    refine TL.on rfl rfl rfl (by simp) ?_
    refine TL.callV hF (Eq_long h9.ro h11.ro (by have := boxL_len difsS ss l; show (boxL difsS ss l).1.length < _; omega)) rfl rfl ?_
    refine TL.pickT hF rfl (by simp) rfl rfl ?_
    refine TL.move hF rfl rfl ?_
    refine TL.on rfl rfl rfl (by simp) ?_
    refine TL.move hF rfl rfl ?_
    refine TL.on rfl rfl rfl (by simp) ?_
    refine TL.move hF rfl rfl ?_
    refine TL.on rfl rfl rfl (by simp) ?_
    refine TL.bin hF rfl rfl rfl rfl ?_
    refine TL.pickT hF rfl (by simp) rfl rfl ?_
    refine TL.move hF rfl rfl ?_
    refine TL.on rfl rfl rfl (by simp) ?_
    refine TL.call hF ordered_fn rfl rfl ?_
    rintro _ _ rfl
    refine TL.pickT hF rfl (by simp) rfl rfl ?_
    refine TL.assign hF rfl rfl ?_
    refine TL.nil ?_
    refine TQ.then_n ?_
    refine T.ret ?_
    exact TQ.retsF [4] _ hb rfl rfl rfl (fun _ => rfl)
end Go.Proofs.YteimjjpigohnhaaGreat
namespace Go.Proofs.YteimjjpigohnhaaGreat
open Go.Sl Go.ChangeShapes Go.WideShapes Go.ChangeAt Go.RowKit 
set_option maxRecDepth 100000 in
theorem orderBoxes_lifted (os : Os) (started : os.Started) (H : Type) (enc : TypeId × Value → H) :
    ReturnsInHanded {} Tryz.checked os 8 .any (Rows.orderBoxesSpec.pre6 enc Tryz.prog Tryz.f8 Rows.orderBoxesRow.domain false) (Rows.orderBoxesSpec.post enc Tryz.prog Tryz.f8 false true false false) := by
  refine returnsInHanded_of_change (C := Tryz.checked) Tryz.own started (by kernel_rfl) Tryz.func8
    (ChangeSpec.witness6 (enc := enc) (C := Tryz.checked) false ⟨#[], #[.slice none 0 0, .slice none 0 0], []⟩ 8 (by kernel_rfl) (by kernel_rfl) (by kernel_rfl) (by kernel_rfl)) ?_
  intro W base args ds gs before hval hW hcnd _
  have hW' := hW
  obtain ⟨p, q, hA0, hV, rfl, hfz, hnd⟩ := hW
  have hA : DataW.TrodAll enc Tryz.prog W 0 (fun _ => true) true [22, 22] args.toList ds p := hA0
  have hval' : ∀ (j : Nat) t v, (#[22, 22] : Array TypeId)[j]? = some t → args[j]? = some v → Value.okWide Tryz.prog W .any base t v := hval
  obtain ⟨v0, v1, d0, d1, p0, p1, rfl, rfl, rfl, h0, h1⟩ := trodAll_two hA
  obtain ⟨_, _, _, rfl⟩ := okWide_slice u22 (hval' 0 22 v0 rfl rfl)
  obtain ⟨_, h0⟩ := h0
  obtain ⟨a0, xs0, c0, e0, hx0, hl0, hw0⟩ := time_read h0
  obtain ⟨_, _, _, rfl⟩ := okWide_slice u22 (hval' 1 22 v1 rfl rfl)
  obtain ⟨_, h1⟩ := h1
  obtain ⟨a1, xs1, c1, e1, hx1, hl1, hw1⟩ := time_read h1
  rw [e0, e1] at hW' ⊢
  refine (calls_true (OrderBoxes_fn hx0 hx1 hl0 hl1 hw1)).mono fun e W' ⟨he, hw⟩ => ⟨_, he, ?_⟩
  exact law_post (f := Tryz.f8) Tryz.laidOut rfl 4 rfl u4 hW' rfl (by decide +kernel) hw
theorem orderBoxes_holds : Rows.OrderBoxesSaid :=
  OpenClaim.holds_of_wide 8 Tryz.f8 rfl rfl rfl rfl rfl rfl rfl ⟨rfl, rfl, rfl, rfl, rfl⟩ rfl rfl rfl rfl rfl (by kernel_rfl) Tryz.func8 (by kernel_rfl)
    (of_decide_eq_true (by kernel_rfl)) (by unfold Func.isWrapper; first | (rw [if_pos (by decide +kernel)]; kernel_rfl) | (rw [if_neg (by decide +kernel)]; exact ⟨rfl, rfl⟩))
    (fun os started H enc _ => orderBoxes_lifted os started H enc)
#print axioms orderBoxes_holds
end Go.Proofs.YteimjjpigohnhaaGreat
