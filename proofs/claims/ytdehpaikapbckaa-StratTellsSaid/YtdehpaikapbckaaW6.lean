/- The reference's ways and cycles. -/
import Derived.Test.YtdehpaikapbckaaW5
import Derived.Test.YtdehpaikapbckaaDist
namespace Go.Proofs.Ytdehpaikapbckaa
open Go.Sl
variable {S : Nat → Prop} {w0 : World} {η : Heap}
def intC (n : Nat) (f : Nat → Int) : List Value := (List.range n).map fun j => .int .i64 (f j)
theorem intC_len (n : Nat) (f : Nat → Int) : (intC n f).length = n := by simp [intC]
theorem intC_get {n : Nat} {f : Nat → Int} {j : Nat} (h : j < n) : (intC n f)[j]? = some (.int .i64 (f j)) := by simp [intC, h]
theorem intC_congr {n : Nat} {f g : Nat → Int} (h : ∀ j, j < n → f j = g j) : intC n f = intC n g := by
  unfold intC; apply List.map_congr_left; intro j hj; rw [h j (by simpa using hj)]
theorem intC_zero (n : Nat) : List.replicate n (Value.int .i64 0) = intC n fun _ => 0 := by
  apply List.ext_getElem?; intro i; simp only [intC, List.getElem?_map]
  by_cases h : i < n
  · rw [List.getElem?_replicate_of_lt h]; simp [h]
  · simp [h]
theorem intC_set {n : Nat} {f g : Nat → Int} {j : Nat} {v : Int} (h : ∀ i, i < n → g i = if i = j then v else f i) : (intC n f).toArray.setIfInBounds j (.int .i64 v) = (intC n g).toArray := by
  apply Array.ext'
  simp only [Array.toList_setIfInBounds]
  apply List.ext_getElem?
  intro i
  rw [List.getElem?_set]
  by_cases hi : i < n
  · rw [intC_get hi, intC_get hi, h i hi]
    by_cases hj : j = i
    · subst hj; simp [intC_len, hi]
    · simp [hj, Ne.symm hj]
  · have h1 : (intC n f)[i]? = none := by simp [intC]; omega
    have h2 : (intC n g)[i]? = none := by simp [intC]; omega
    rw [h1, h2]
    by_cases hj : j = i
    · subst hj; simp [intC_len, hi]
    · simp [hj]
/-- An owned list of n numbers. -/
abbrev iseg (b n : Nat) (f : Nat → Int) : Seg := [(b, .cells (intC n f).toArray 3 (0, 0))]
theorem iseg_at {b n j : Nat} {f : Nat → Int} (h : iseg b n f ∈ η) (hj : j < n) : At S w0 η (sAt (some ⟨b, 0, none⟩) (j * 1)) (.int .i64 (f j)) := by
  rw [Nat.mul_one]; exact (row_own h).cell j _ (intC_get hj)
theorem iseg_set {b n j k : Nat} {f g : Nat → Int} {v : Int} {r : Heap} (hk : k = j) (h : ∀ i, i < n → g i = if i = j then v else f i) : [(b, Obj.cells ((intC n f).toArray.setIfInBounds k (.int .i64 v)) 3 (0, 0))] :: r = iseg b n g :: r := by
  subst hk; rw [intC_set h]
theorem iseg_congr {b n : Nat} {f g : Nat → Int} {r : Heap} (h : ∀ i, i < n → f i = g i) : iseg b n f :: r = iseg b n g :: r := by rw [iseg, iseg, intC_congr h]
/-- Round r of the distances, at a, b. -/
def mlev (E : Nat → Nat → Bool) (n t r a b i : Nat) : Int :=
  if i < a then levS E n t (r + 1) i else if i = a ∧ levS E n t r i < 0 ∧ hasN b (fun b' => decide (levS E n t r b' = r) && E i b') = true then (r : Int) + 1 else levS E n t r i
theorem hasN_succ (n : Nat) (p : Nat → Bool) : hasN (n + 1) p = (hasN n p || p n) := by unfold hasN; rw [List.range_succ, List.any_append]; simp
theorem mlev_r {E : Nat → Nat → Bool} {n t r a b i : Nat} : mlev E n t r a b i = r ↔ levS E n t r i = r := by
  have := levS_le (E := E) (n := n) (t := t) r i
  unfold mlev; split
  · simp only [levS]; split <;> omega
  · split <;> omega
theorem mlev_row {E : Nat → Nat → Bool} {n t r a i : Nat} : mlev E n t r a n i = mlev E n t r (a + 1) 0 i := by
  unfold mlev
  by_cases h : i < a
  · rw [if_pos h, if_pos (by omega)]
  · rw [if_neg h]
    by_cases h2 : i = a
    · subst h2; rw [if_pos (show i < i + 1 by omega)]; simp only [levS, true_and]
    · have h0 : hasN 0 (fun b' => decide (levS E n t r b' = r) && E i b') = false := rfl
      rw [if_neg (by omega), if_neg (by omega), if_neg (by rw [h0]; simp)]
theorem mlev_here {E : Nat → Nat → Bool} {n t r a b : Nat} : mlev E n t r a (b + 1) a = if mlev E n t r a b a < 0 ∧ mlev E n t r a b b = r ∧ E a b = true then (r : Int) + 1 else mlev E n t r a b a := by
  simp only [mlev_r]
  unfold mlev
  simp only [Nat.lt_irrefl, if_false, true_and]
  rw [hasN_succ]
  by_cases h1 : levS E n t r a < 0
  · by_cases h2 : hasN b (fun b' => decide (levS E n t r b' = r) && E a b') = true
    · simp [h1, h2]
    · simp only [h2, Bool.false_or, h1, true_and, Bool.and_eq_true, decide_eq_true_eq, Bool.false_eq_true, if_false]
  · simp [h1]
theorem mlev_else {E : Nat → Nat → Bool} {n t r a b b' i : Nat} (h : i ≠ a) : mlev E n t r a b i = mlev E n t r a b' i := by
  unfold mlev; simp [h]

set_option maxHeartbeats 2000000 in
theorem far_fn {p : Option Addr} {rs : List RuleD} {c n t : Nat} (hr : Rules S w0 [] p rs) (hl : rs.length < 2 ^ 63) (hb : ∀ r ∈ rs, r.body.length < 2 ^ 63) (hn : n ≤ 1000) (htn : t < n) :
    Rt Try.prog 40 [.int .i64 (n : Int), .slice p rs.length c, .int .i64 (t : Int)].toArray S w0 η (fun v η' => ∃ b, v = .slice (some ⟨b, 0, none⟩) n n ∧ η' = iseg b n (distS (EU rs) n t) :: η) := by
  have hF := open_wide
  refine Rt.of (fn := Try.f40) Try.func40 rfl rfl ?_
  refine T.seq ?_
  refine T.region ?_
  refine TL.assign hF rfl rfl ?_
  refine TL.nil ?_
  refine TQ.then_n ?_
  refine T.seq ?_
  refine T.region ?_
  refine TL.move hF rfl rfl ?_
  refine TL.makeSlice hF (k := n) rfl rfl rfl (by omega) (by omega) rfl (fun b13 => ?_)
  refine TL.assign hF rfl rfl ?_
  refine TL.nil ?_
  refine TQ.then_n ?_
  refine T.seq ?_
  refine T.seq ?_
  refine T.region ?_
  refine TL.assign hF rfl rfl ?_
  refine TL.nil ?_
  refine TQ.then_n ?_
  refine T.block ?_
  refine T.loop (ι := Nat) (fun k => k ≤ n) (fun k => [(0, .int .i64 (n : Int)), (1, .slice p rs.length c), (2, .int .i64 (t : Int)), (7, .slice (some ⟨b13, 0, none⟩) n n), (8, .int .i64 (k : Int))]) (fun k => iseg b13 n (fun i => if i < k then -1 else 0) :: η) (fun k => n - k) 0 (Nat.zero_le _) ⟨rfl, rfl, rfl, rfl, rfl, trivial⟩ (by rw [intC_zero]; rfl) ?_
  rintro k hk
  refine T.seq ?_
  refine T.seq ?_
  refine T.region ?_
  refine TL.move hF rfl rfl ?_
  refine TL.move hF rfl rfl ?_
  refine TL.bin hF rfl rfl rfl rfl ?_
  refine TL.nil ?_
  refine TQ.then_n ?_
  first | refine T.cond_d rfl (fun ht16 => ?_) (fun ht16 => ?_) | refine T.cond _ rfl (fun ht16 => ?_) (fun ht16 => ?_)
  · refine T.skip ?_
    refine TQ.then_n ?_
    refine T.seq ?_
    refine T.block ?_
    refine T.region ?_
    refine TL.move hF rfl rfl ?_
    refine TL.move hF rfl rfl ?_
    refine TL.indexAddr hF rfl rfl ⟨_, rfl, rfl⟩ (by omega) (by omega) rfl ?_
    refine TL.storeI hF 0 rfl rfl rfl rfl (by simp [intC_len]; omega) ?_
    refine TL.nil ?_
    refine TQ.block_n ?_
    refine TQ.then_n ?_
    refine T.region ?_
    refine TL.move hF rfl rfl ?_
    refine TL.add hF rfl rfl (by omega) (by omega) rfl ?_
    refine TL.assign hF rfl rfl ?_
    refine TL.nil ?_
    refine TQ.round (k + 1) (by omega) (by omega) ⟨rfl, rfl, rfl, rfl, rfl, trivial⟩ (iseg_set (j := k) (by simp) (fun i hi => by by_cases h : i = k <;> simp [h]; omega))
  · refine T.exit ?_
    refine TQ.then_x ?_
    refine TQ.then_x ?_
    refine TQ.block_x ?_
    refine TQ.then_n ?_
    refine T.seq ?_
    refine T.region ?_
    refine TL.move hF rfl rfl ?_
    refine TL.move hF rfl rfl ?_
    refine TL.indexAddr hF rfl rfl ⟨_, rfl, rfl⟩ (by omega) (by omega) rfl ?_
    refine TL.storeI hF 0 rfl rfl rfl rfl (by simp [intC_len]; omega) ?_
    refine TL.nil ?_
    refine TQ.then_n ?_
    refine T.seq ?_
    refine T.seq ?_
    refine T.region ?_
    refine TL.assign hF rfl rfl ?_
    refine TL.nil ?_
    refine TQ.then_n ?_
    refine T.block ?_
    refine T.loop (ι := Nat) (fun k => k ≤ n) (fun k => [(0, .int .i64 (n : Int)), (1, .slice p rs.length c), (2, .int .i64 (t : Int)), (7, .slice (some ⟨b13, 0, none⟩) n n), (9, .int .i64 (k : Int))]) (fun k => iseg b13 n (levS (EU rs) n t k) :: η) (fun k => n - k) 0 (Nat.zero_le _) ⟨rfl, rfl, rfl, rfl, rfl, trivial⟩ (iseg_set (j := t) (by simp) (fun i hi => by simp only [levS]; split; rfl; rw [if_pos (by omega)])) ?_
    rintro r hr2
    refine T.seq ?_
    refine T.seq ?_
    refine T.region ?_
    refine TL.move hF rfl rfl ?_
    refine TL.move hF rfl rfl ?_
    refine TL.bin hF rfl rfl rfl rfl ?_
    refine TL.nil ?_
    refine TQ.then_n ?_
    first | refine T.cond_d rfl (fun ht27 => ?_) (fun ht27 => ?_) | refine T.cond _ rfl (fun ht27 => ?_) (fun ht27 => ?_)
    · refine T.skip ?_
      refine TQ.then_n ?_
      refine T.seq ?_
      refine T.block ?_
      refine T.seq ?_
      refine T.region ?_
      refine TL.assign hF rfl rfl ?_
      refine TL.nil ?_
      refine TQ.then_n ?_
      refine T.block ?_
      refine T.loop (ι := Nat) (fun k => k ≤ n) (fun k => [(0, .int .i64 (n : Int)), (1, .slice p rs.length c), (2, .int .i64 (t : Int)), (7, .slice (some ⟨b13, 0, none⟩) n n), (9, .int .i64 (r : Int)), (10, .int .i64 (k : Int))]) (fun k => iseg b13 n (mlev (EU rs) n t r k 0) :: η) (fun k => n - k) 0 (Nat.zero_le _) ⟨rfl, rfl, rfl, rfl, rfl, rfl, trivial⟩ (iseg_congr (fun i _ => by simp [mlev, hasN])) ?_
      rintro q hq
      refine T.seq ?_
      refine T.seq ?_
      refine T.region ?_
      refine TL.move hF rfl rfl ?_
      refine TL.move hF rfl rfl ?_
      refine TL.bin hF rfl rfl rfl rfl ?_
      refine TL.nil ?_
      refine TQ.then_n ?_
      first | refine T.cond_d rfl (fun ht32 => ?_) (fun ht32 => ?_) | refine T.cond _ rfl (fun ht32 => ?_) (fun ht32 => ?_)
      · refine T.skip ?_
        refine TQ.then_n ?_
        refine T.seq ?_
        refine T.block ?_
        refine T.seq ?_
        refine T.region ?_
        refine TL.assign hF rfl rfl ?_
        refine TL.nil ?_
        refine TQ.then_n ?_
        refine T.block ?_
        refine T.loop (ι := Nat) (fun k => k ≤ n) (fun k => [(0, .int .i64 (n : Int)), (1, .slice p rs.length c), (2, .int .i64 (t : Int)), (7, .slice (some ⟨b13, 0, none⟩) n n), (9, .int .i64 (r : Int)), (10, .int .i64 (q : Int)), (11, .int .i64 (k : Int))]) (fun k => iseg b13 n (mlev (EU rs) n t r q k) :: η) (fun k => n - k) 0 (Nat.zero_le _) ⟨rfl, rfl, rfl, rfl, rfl, rfl, rfl, trivial⟩ rfl ?_
        rintro j hj
        refine T.seq ?_
        refine T.seq ?_
        refine T.region ?_
        refine TL.move hF rfl rfl ?_
        refine TL.move hF rfl rfl ?_
        refine TL.bin hF rfl rfl rfl rfl ?_
        refine TL.nil ?_
        refine TQ.then_n ?_
        first | refine T.cond_d rfl (fun ht37 => ?_) (fun ht37 => ?_) | refine T.cond _ rfl (fun ht37 => ?_) (fun ht37 => ?_)
        · refine T.skip ?_
          refine TQ.then_n ?_
          refine T.seq ?_
          refine T.block ?_
          refine T.seq ?_
          refine T.region ?_
          refine TL.move hF rfl rfl ?_
          refine TL.move hF rfl rfl ?_
          refine TL.indexAddr hF rfl rfl ⟨_, rfl, rfl⟩ (by omega) (by omega) rfl ?_
          refine TL.load hF rfl (iseg_at (j := q) List.mem_cons_self (by omega)) rfl ?_
          refine TL.bin hF rfl rfl rfl rfl ?_
          refine TL.move hF rfl rfl ?_
          refine TL.gd (t := 45) rfl (fun g16_45 => ?_) (fun g16_45 => ?_)
          · refine TL.on rfl rfl rfl (decide_eq_true g16_45) ?_
            refine TL.move hF rfl rfl ?_
            refine TL.on rfl rfl rfl (decide_eq_true g16_45) ?_
            refine TL.move hF rfl rfl ?_
            refine TL.on rfl rfl rfl (decide_eq_true g16_45) ?_
            refine TL.indexAddr hF rfl rfl ⟨_, rfl, rfl⟩ (by omega) (by omega) rfl ?_
            refine TL.on rfl rfl rfl (decide_eq_true g16_45) ?_
            refine TL.load hF rfl (iseg_at (j := j) List.mem_cons_self (by omega)) rfl ?_
            refine TL.on rfl rfl rfl (decide_eq_true g16_45) ?_
            refine TL.move hF rfl rfl ?_
            refine TL.on rfl rfl rfl (decide_eq_true g16_45) ?_
            refine TL.bin hF rfl rfl rfl rfl ?_
            refine TL.pickT hF rfl (decide_eq_true g16_45) rfl rfl ?_
            refine TL.move hF rfl rfl ?_
            refine TL.gd (t := 53) rfl (fun g16_53 => ?_) (fun g16_53 => ?_)
            · refine TL.on rfl rfl rfl (decide_eq_true g16_53) ?_
              refine TL.move hF rfl rfl ?_
              refine TL.on rfl rfl rfl (decide_eq_true g16_53) ?_
              refine TL.move hF rfl rfl ?_
              refine TL.on rfl rfl rfl (decide_eq_true g16_53) ?_
              refine TL.move hF rfl rfl ?_
              refine TL.on rfl rfl rfl (decide_eq_true g16_53) ?_
              refine TL.callV hF (Uses_fn q j false hr hl hb) rfl rfl ?_
              refine TL.pickT hF rfl (decide_eq_true g16_53) rfl rfl ?_
              refine TL.nil ?_
              refine TQ.then_n ?_
              refine T.cond _ rfl (fun ht58 => ?_) (fun ht58 => ?_)
              · refine T.region ?_
                refine TL.move hF rfl rfl ?_
                refine TL.move hF rfl rfl ?_
                refine TL.move hF rfl rfl ?_
                refine TL.add hF rfl rfl (by omega) (by omega) rfl ?_
                refine TL.indexAddr hF rfl rfl ⟨_, rfl, rfl⟩ (by omega) (by omega) rfl ?_
                refine TL.storeI hF 0 rfl rfl rfl rfl (by simp [intC_len]; omega) ?_
                refine TL.nil ?_
                refine TQ.block_n ?_
                refine TQ.then_n ?_
                refine T.region ?_
                refine TL.move hF rfl rfl ?_
                refine TL.add hF rfl rfl (by omega) (by omega) rfl ?_
                refine TL.assign hF rfl rfl ?_
                refine TL.nil ?_
                refine TQ.round (j + 1) (by omega) (by omega) ⟨rfl, rfl, rfl, rfl, rfl, rfl, rfl, trivial⟩ (iseg_set (j := q) (by simp) (fun i hi => ?_))
                by_cases hiq : i = q
                · subst hiq; rw [if_pos rfl, mlev_here, if_pos ⟨g16_45, g16_53, ht58⟩]
                · rw [if_neg hiq, mlev_else hiq]
              · refine T.skip ?_
                refine TQ.block_n ?_
                refine TQ.then_n ?_
                refine T.region ?_
                refine TL.move hF rfl rfl ?_
                refine TL.add hF rfl rfl (by omega) (by omega) rfl ?_
                refine TL.assign hF rfl rfl ?_
                refine TL.nil ?_
                refine TQ.round (j + 1) (by omega) (by omega) ⟨rfl, rfl, rfl, rfl, rfl, rfl, rfl, trivial⟩ (iseg_congr (fun i hi => ?_))
                by_cases hiq : i = q
                · subst hiq; rw [mlev_here, if_neg (by rintro ⟨h1, h2, h3⟩; first | omega | simp_all)]
                · rw [mlev_else hiq]
            · refine TL.off hF rfl rfl rfl (decide_eq_false g16_53) rfl ?_
              refine TL.off hF rfl rfl rfl (decide_eq_false g16_53) rfl ?_
              refine TL.off hF rfl rfl rfl (decide_eq_false g16_53) rfl ?_
              refine TL.off hF rfl rfl rfl (decide_eq_false g16_53) rfl ?_
              refine TL.pickF hF rfl (decide_eq_false g16_53) rfl rfl ?_
              refine TL.nil ?_
              refine TQ.then_n ?_
              refine T.cond_f rfl rfl ?_
              refine T.skip ?_
              refine TQ.block_n ?_
              refine TQ.then_n ?_
              refine T.region ?_
              refine TL.move hF rfl rfl ?_
              refine TL.add hF rfl rfl (by omega) (by omega) rfl ?_
              refine TL.assign hF rfl rfl ?_
              refine TL.nil ?_
              refine TQ.round (j + 1) (by omega) (by omega) ⟨rfl, rfl, rfl, rfl, rfl, rfl, rfl, trivial⟩ (iseg_congr (fun i hi => ?_))
              by_cases hiq : i = q
              · subst hiq; rw [mlev_here, if_neg (by rintro ⟨h1, h2, h3⟩; first | omega | simp_all)]
              · rw [mlev_else hiq]
          · refine TL.off hF rfl rfl rfl (decide_eq_false g16_45) rfl ?_
            refine TL.off hF rfl rfl rfl (decide_eq_false g16_45) rfl ?_
            refine TL.off hF rfl rfl rfl (decide_eq_false g16_45) rfl ?_
            refine TL.off hF rfl rfl rfl (decide_eq_false g16_45) rfl ?_
            refine TL.off hF rfl rfl rfl (decide_eq_false g16_45) rfl ?_
            refine TL.off hF rfl rfl rfl (decide_eq_false g16_45) rfl ?_
            refine TL.pickF hF rfl (decide_eq_false g16_45) rfl rfl ?_
            refine TL.move hF rfl rfl ?_
            refine TL.off hF rfl rfl rfl rfl rfl ?_
            refine TL.off hF rfl rfl rfl rfl rfl ?_
            refine TL.off hF rfl rfl rfl rfl rfl ?_
            refine TL.off hF rfl rfl rfl rfl rfl ?_
            refine TL.pickF hF rfl rfl rfl rfl ?_
            refine TL.nil ?_
            refine TQ.then_n ?_
            refine T.cond_f rfl rfl ?_
            refine T.skip ?_
            refine TQ.block_n ?_
            refine TQ.then_n ?_
            refine T.region ?_
            refine TL.move hF rfl rfl ?_
            refine TL.add hF rfl rfl (by omega) (by omega) rfl ?_
            refine TL.assign hF rfl rfl ?_
            refine TL.nil ?_
            refine TQ.round (j + 1) (by omega) (by omega) ⟨rfl, rfl, rfl, rfl, rfl, rfl, rfl, trivial⟩ (iseg_congr (fun i hi => ?_))
            by_cases hiq : i = q
            · subst hiq; rw [mlev_here, if_neg (by rintro ⟨h1, h2, h3⟩; first | omega | simp_all)]
            · rw [mlev_else hiq]
        · refine T.exit ?_
          refine TQ.then_x ?_
          refine TQ.then_x ?_
          refine TQ.block_x ?_
          refine TQ.block_n ?_
          refine TQ.then_n ?_
          refine T.region ?_
          refine TL.move hF rfl rfl ?_
          refine TL.add hF rfl rfl (by omega) (by omega) rfl ?_
          refine TL.assign hF rfl rfl ?_
          refine TL.nil ?_
          have hjn : j = n := by omega
          subst hjn
          exact TQ.round (q + 1) (by omega) (by omega) ⟨rfl, rfl, rfl, rfl, rfl, rfl, trivial⟩ (iseg_congr (fun i hi => mlev_row))
      · refine T.exit ?_
        refine TQ.then_x ?_
        refine TQ.then_x ?_
        refine TQ.block_x ?_
        refine TQ.block_n ?_
        refine TQ.then_n ?_
        refine T.region ?_
        refine TL.move hF rfl rfl ?_
        refine TL.add hF rfl rfl (by omega) (by omega) rfl ?_
        refine TL.assign hF rfl rfl ?_
        refine TL.nil ?_
        have hjn : q = n := by omega
        subst hjn
        exact TQ.round (r + 1) (by omega) (by omega) ⟨rfl, rfl, rfl, rfl, rfl, trivial⟩ (iseg_congr (fun i hi => by simp [mlev, hi]))
    · refine T.exit ?_
      refine TQ.then_x ?_
      refine TQ.then_x ?_
      refine TQ.block_x ?_
      refine TQ.then_n ?_
      refine T.seq ?_
      refine T.region ?_
      refine TL.move hF rfl rfl ?_
      refine TL.assign hF rfl rfl ?_
      refine TL.nil ?_
      refine TQ.then_n ?_
      refine T.ret ?_
      refine TQ.rets [6] _ rfl rfl rfl ?_
      have hjn : r = n := by omega
      subst hjn
      exact ⟨b13, rfl, rfl⟩
end Go.Proofs.Ytdehpaikapbckaa
