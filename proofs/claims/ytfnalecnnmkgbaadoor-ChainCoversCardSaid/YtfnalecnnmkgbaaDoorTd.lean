/- Several texts in one. -/
import Derived.Test.YtfnalecnnmkgbaaDoorTc
import Derived.Shelf.Sort.Plain
import Derived.Ground.Names2Prog
import Derived.Shelf.Slices.In.SortNone
import Derived.Test.YtfnalecnnmkgbaaDoorProg
import Derived.Test.YtfnalecnnmkgbaaDoorTb
/- Orders, by the specification. -/
namespace Go.Proofs.YtfnalecnnmkgbaaDoor
open Go.Sl
variable {S : Nat → Prop} {w0 : World} {η : Heap}
/-- The columns of a search that are not there yet, behind those that are. -/
def newC (out : List Int) (s : Nat) (c : Nat) : Bool := s.testBit c && !decide ((c : Int) ∈ out)
def bitsC (k : Nat) (p : Nat → Bool) : List Int := ((List.range k).filter p).map fun (c : Nat) => (c : Int)
def stepR (m : Nat) (out : List Int) (s : Int) : List Int := out ++ bitsC m (newC out s.toNat)
def orderS (m : Nat) (ch : List Int) : List Int := (ch ++ [((2 ^ m - 1 : Nat) : Int)]).foldl (stepR m) []
theorem bitsC_succ {k : Nat} {p : Nat → Bool} : bitsC (k + 1) p = bitsC k p ++ if p k = true then [(k : Int)] else [] := by
 unfold bitsC
 rw [List.range_succ, List.filter_append, List.map_append]
 congr 1
 simp only [List.filter_cons, List.filter_nil]
 split <;> rfl
theorem bitsC_len (k : Nat) (p : Nat → Bool) : (bitsC k p).length ≤ k := by unfold bitsC; rw [List.length_map]; exact Nat.le_trans (List.length_filter_le _ _) (by simp)
theorem mem_bitsC {k : Nat} {p : Nat → Bool} {c : Nat} : (c : Int) ∈ bitsC k p ↔ c < k ∧ p c = true := by
 unfold bitsC
 simp only [List.mem_map, List.mem_filter, List.mem_range]
 constructor
 ·rintro ⟨d, h, e⟩; rw [show c = d by omega]; exact h
 ·intro h; exact ⟨c, h, rfl⟩
theorem bit_and (s c : Nat) : decide ((((s / 2 ^ c) &&& 1 : Nat) : Int) = 1) = s.testBit c := by
 rw [Nat.and_one_is_mod, Nat.testBit_eq_decide_div_mod_eq, Bool.eq_iff_iff, decide_eq_true_eq, decide_eq_true_eq]; omega
theorem stepR_len (m : Nat) (out : List Int) (s : Int) : (stepR m out s).length ≤ out.length + m := by unfold stepR; rw [List.length_append]; have := bitsC_len m (newC out s.toNat); omega
theorem fold_len (m : Nat) : ∀ (l out : List Int), (l.foldl (stepR m) out).length ≤ out.length + m * l.length
 | [], out => by simp
 | s :: l, out => by
  rw [List.foldl_cons]
  have h1 := fold_len m l (stepR m out s)
  have h2 := stepR_len m out s
  rw [List.length_cons, Nat.mul_add, Nat.mul_one]; omega
set_option maxHeartbeats 2000000 in
theorem Order_ref {a : Option Addr} {ch : List Int} {c m : Nat} (hx : Row S w0 [] a (ints ch)) (hs : Sets ch) (hl : ch.length ≤ 25) (hm : m ≤ 10) :
  Rt Tryd.prog 44 [.int .i64 (m : Int), .slice a ch.length c].toArray S w0 η (fun v η' => ∃ oa oc og, v = .slice oa (orderS m ch).length oc ∧ OSl 3 1 (.slice oa (orderS m ch).length oc) (orderS m ch).length (ints (orderS m ch)) og ∧ η' = og :: η) := by
 have hF := open_wide
 refine Rt.of (fn := Tryd.f44) Tryd.func44 rfl rfl ?_
 refine T.seq ?_
 refine T.region ?_
 refine TL.assign hF rfl rfl ?_
 refine TL.nil ?_
 refine TQ.then_n ?_
 refine T.seq ?_
 refine T.region ?_
 refine TL.assign hF rfl rfl ?_
 refine TL.nil ?_
 refine TQ.then_n ?_
 refine T.seq ?_
 refine T.seq ?_
 refine T.region ?_
 refine TL.assign hF rfl rfl ?_
 refine TL.nil ?_
 refine TQ.then_n ?_
 refine T.block ?_
 refine T.hnil ?_
 refine T.loop (ι := Nat × Option Addr × Nat × Seg) (fun z => match z with | (i, oa, oc, og) => i ≤ ch.length + 1 ∧ OSl 3 1 (.slice oa (((ch ++ [((2 ^ m - 1 : Nat) : Int)]).take i).foldl (stepR m) []).length oc) (((ch ++ [((2 ^ m - 1 : Nat) : Int)]).take i).foldl (stepR m) []).length (ints (((ch ++ [((2 ^ m - 1 : Nat) : Int)]).take i).foldl (stepR m) [])) og) (fun z => match z with | (i, oa, oc, og) => [(0, .int .i64 (m : Int)), (1, .slice a ch.length c), (4, .slice none 0 0), (5, .slice oa (((ch ++ [((2 ^ m - 1 : Nat) : Int)]).take i).foldl (stepR m) []).length oc), (6, .int .i64 (i : Int))]) (fun z => match z with | (i, oa, oc, og) => og :: η) (fun z => ch.length + 1 - z.1) (0, none, 0, []) ⟨Nat.zero_le _, OSl.nil _ _⟩ ⟨rfl, rfl, rfl, rfl, rfl, trivial⟩ rfl ?_
 rintro ⟨i, oa, oc, og⟩ ⟨hi, ho⟩
 refine T.seq ?_
 refine T.seq ?_
 refine T.region ?_
 refine TL.move hF rfl rfl ?_
 refine TL.move hF rfl rfl ?_
 refine TL.len hF rfl rfl ?_
 refine TL.bin hF rfl rfl rfl rfl ?_
 refine TL.nil ?_
 refine TQ.then_n ?_
 first | refine T.cond_d rfl (fun ht12 => ?_) (fun ht12 => ?_) | refine T.cond _ rfl (fun ht12 => ?_) (fun ht12 => ?_)
 ·refine T.skip ?_
  refine TQ.then_n ?_
  refine T.seq ?_
  refine T.block ?_
  refine T.seq ?_
  refine T.region ?_
  refine TL.move hF rfl rfl ?_
  have hp := two_pow hm
  refine TL.shlS hF (a := 1) (s := m) rfl rfl (by omega) (by omega) rfl ?_
  refine TL.subK hF rfl rfl (r := ((2 ^ m - 1 : Nat) : Int)) (by have h1 : 1 ≤ 2 ^ m := Nat.one_le_two_pow; rw [Nat.one_mul]; exact (wrap_i64 (by omega) (by omega)).trans (by omega)) rfl ?_
  refine TL.assign hF rfl rfl ?_
  refine TL.nil ?_
  refine TQ.then_n ?_
  have hi1 : i ≤ ch.length := by have h : (i : Int) ≤ (ch.length : Int) := ht12; omega
  have hp := two_pow hm
  have hgl : i < (ch ++ [((2 ^ m - 1 : Nat) : Int)]).length := by simp; omega
  have hst : ∃ s : Nat, (ch ++ [((2 ^ m - 1 : Nat) : Int)])[i]'hgl = (s : Int) ∧ s < 1024 := by
   by_cases h : i < ch.length
   ·rw [List.getElem_append_left h]; exact hs.get h
   ·rw [List.getElem_append_right (by omega)]
    simp only [show i - ch.length = 0 by omega, List.getElem_cons_zero]
    exact ⟨2 ^ m - 1, rfl, by omega⟩
  obtain ⟨s, hse, hs4⟩ := hst
  have hfs : (((ch ++ [((2 ^ m - 1 : Nat) : Int)]).take (i + 1)).foldl (stepR m) []) = stepR m (((ch ++ [((2 ^ m - 1 : Nat) : Int)]).take i).foldl (stepR m) []) (s : Int) := by
   rw [List.take_succ_eq_append_getElem hgl, List.foldl_append, hse]; rfl
  have hfl := fold_len m ((ch ++ [((2 ^ m - 1 : Nat) : Int)]).take i) []
  rw [List.length_take] at hfl
  have hfl2 : (((ch ++ [((2 ^ m - 1 : Nat) : Int)]).take i).foldl (stepR m) []).length ≤ m * 26 := Nat.le_trans hfl (by rw [List.length_nil, Nat.zero_add]; exact Nat.mul_le_mul_left m (by omega))
  have hfl3 : m * 26 ≤ 260 := Nat.mul_le_mul_right 26 hm
  refine T.cut (ι := Unit) (fun _ => True) (fun _ => [(0, .int .i64 (m : Int)), (1, .slice a ch.length c), (4, .slice none 0 0), (5, .slice oa (((ch ++ [((2 ^ m - 1 : Nat) : Int)]).take i).foldl (stepR m) []).length oc), (6, .int .i64 (i : Int)), (7, .int .i64 (s : Int))]) (fun _ => og :: η) ?_ ?_
  ·refine T.seq ?_
   refine T.region ?_
   refine TL.move hF rfl rfl ?_
   refine TL.move hF rfl rfl ?_
   refine TL.len hF rfl rfl ?_
   refine TL.bin hF rfl rfl rfl rfl ?_
   refine TL.nil ?_
   refine TQ.then_n ?_
   refine T.cond_d rfl (fun ht21 => ?_) (fun ht21 => ?_)
   ·refine T.region ?_
    refine TL.move hF rfl rfl ?_
    refine TL.move hF rfl rfl ?_
    have hic : i < ch.length := by omega
    refine TL.indexAddr hF rfl rfl (hx.adi (i := i) (by simp; omega)) (by omega) (by omega) rfl ?_
    have hse2 : ch[i] = (s : Int) := by rw [← hse, List.getElem_append_left hic]
    refine TL.load hF rfl (v := .int .i64 (s : Int)) (by rw [← hse2]; exact (hx.ro.int (i := i) hic)) rfl ?_
    refine TL.assign hF rfl rfl ?_
    refine TL.nil ?_
    exact TQ.cut () trivial ⟨rfl, rfl, rfl, rfl, rfl, rfl, trivial⟩ rfl
   ·refine T.skip ?_
    have hse2 : ((2 ^ m - 1 : Nat) : Int) = (s : Int) := by
     rw [← hse, List.getElem_append_right (by omega)]
     simp only [show i - ch.length = 0 by omega, List.getElem_cons_zero]
    exact TQ.cut () trivial ⟨rfl, rfl, rfl, rfl, rfl, congrArg (fun z => some (Value.int .i64 z)) hse2, trivial⟩ rfl
  ·rintro _ _
   generalize (((ch ++ [((2 ^ m - 1 : Nat) : Int)]).take i).foldl (stepR m) []) = out at ho hfs hfl2 ⊢
   refine T.seq ?_
   refine T.region ?_
   refine TL.assign hF rfl rfl ?_
   refine TL.nil ?_
   refine TQ.then_n ?_
   refine T.block ?_
   refine T.loop (ι := Nat × Option Addr × Nat × Seg) (fun z => match z with | (j, oa, oc, og) => j ≤ m ∧ OSl 3 1 (.slice oa (out ++ bitsC j (newC out s)).length oc) (out ++ bitsC j (newC out s)).length (ints (out ++ bitsC j (newC out s))) og) (fun z => match z with | (j, oa, oc, og) => [(0, .int .i64 (m : Int)), (1, .slice a ch.length c), (4, .slice none 0 0), (5, .slice oa (out ++ bitsC j (newC out s)).length oc), (6, .int .i64 (i : Int)), (7, .int .i64 (s : Int)), (8, .int .i64 (j : Int))]) (fun z => match z with | (j, oa, oc, og) => og :: η) (fun z => m - z.1) (0, oa, oc, og) ⟨Nat.zero_le _, by simpa [bitsC] using ho⟩ ⟨rfl, rfl, rfl, congrArg (fun l : List Int => some (Value.slice oa l.length oc)) (by simp [bitsC]), rfl, rfl, rfl, trivial⟩ rfl ?_
   rintro ⟨j, oa, oc, og⟩ ⟨hj, ho⟩
   refine T.seq ?_
   refine T.seq ?_
   refine T.region ?_
   refine TL.move hF rfl rfl ?_
   refine TL.move hF rfl rfl ?_
   refine TL.bin hF rfl rfl rfl rfl ?_
   refine TL.nil ?_
   refine TQ.then_n ?_
   first | refine T.cond_d rfl (fun ht28 => ?_) (fun ht28 => ?_) | refine T.cond _ rfl (fun ht28 => ?_) (fun ht28 => ?_)
   ·refine T.skip ?_
    refine TQ.then_n ?_
    refine T.seq ?_
    refine T.block ?_
    refine T.seq ?_
    refine T.region ?_
    refine TL.move hF rfl rfl ?_
    refine TL.move hF rfl rfl ?_
    have hjm : j < m := by have h : (j : Int) < (m : Int) := ht28; omega
    have hbl := bitsC_len j (newC out s)
    have hbl2 : (out ++ bitsC j (newC out s)).length = out.length + (bitsC j (newC out s)).length := List.length_append
    have hsd : s / 2 ^ j ≤ s := Nat.div_le_self _ _
    refine TL.shrN hF (a := s) (s := j) rfl rfl (by show j ≤ 64; omega) rfl ?_
    refine TL.andS hF (a := s / 2 ^ j) (m := 1) rfl rfl (by omega) (by omega) rfl ?_
    refine TL.bin hF rfl rfl rfl rfl ?_
    refine TL.move hF rfl rfl ?_
    refine TL.gb (t := 36) rfl (fun g11_36 => ?_) (fun g11_36 => ?_)
    ·refine TL.on rfl rfl rfl g11_36 ?_
     refine TL.move hF rfl rfl ?_
     refine TL.on rfl rfl rfl g11_36 ?_
     refine TL.move hF rfl rfl ?_
     refine TL.on rfl rfl rfl g11_36 ?_
     have hhas := has_fn (S := S) (w0 := w0) (η := og :: η) (c := oc) (j : Int) (ho.row List.mem_cons_self) (by omega)
     refine TL.callV hF hhas rfl rfl ?_
     refine TL.on rfl rfl rfl g11_36 ?_
     refine TL.not hF rfl rfl ?_
     refine TL.pickT hF rfl g11_36 rfl rfl ?_
     refine TL.nil ?_
     refine TQ.then_n ?_
     refine T.cond _ rfl (fun ht41 => ?_) (fun ht41 => ?_)
     ·refine T.region ?_
      refine TL.move hF rfl rfl ?_
      refine TL.move hF rfl rfl ?_
      refine TL.buildSlice hF rfl (cs := #[.int .i64 (j : Int)]) (e := 3) (fun w => by kernel_rfl) rfl (fun b44 => ?_)
      refine TL.append hF 1 rfl rfl rfl ho (row_own (cs := [.int .i64 (j : Int)]) (e := 3) (by simp)).src rfl rfl (by simp [Value.oneCell']) (by omega) (by omega) rfl (fun pa pc pg ph => ?_)
      rw [← ints_app] at ph
      refine TL.assign hF rfl rfl ?_
      refine TL.nil ?_
      refine TQ.block_n ?_
      refine TQ.then_n ?_
      refine T.region ?_
      refine TL.move hF rfl rfl ?_
      refine TL.add hF rfl rfl (by omega) (by omega) rfl ?_
      refine TL.assign hF rfl rfl ?_
      refine TL.nil ?_
      have hb1 : s.testBit j = true := by rw [← bit_and]; exact g11_36
      have hmem : decide ((j : Int) ∈ out ++ bitsC j (newC out s)) = decide ((j : Int) ∈ out) := by
       rw [Bool.eq_iff_iff, decide_eq_true_eq, decide_eq_true_eq, List.mem_append]
       exact ⟨fun h => h.elim id (fun h => by have := (mem_bitsC.1 h).1; omega), .inl⟩
      have hnc : newC out s j = true := by
       unfold newC; rw [hb1, ← hmem, Bool.true_and]; exact ht41
      have e1 : out ++ bitsC (j + 1) (newC out s) = (out ++ bitsC j (newC out s)) ++ [(j : Int)] := by rw [bitsC_succ, if_pos hnc, List.append_assoc]
      refine TQ.pop ?_
      refine TQ.round (j + 1, pa, pc, pg) ⟨by omega, by rw [e1, List.length_append]; exact ph⟩ (by dsimp only; omega) ⟨rfl, rfl, rfl, congrArg (fun n : Nat => some (Value.slice pa n pc)) (by rw [e1]; simp; omega), rfl, rfl, rfl, trivial⟩ rfl
     ·refine T.skip ?_
      refine TQ.block_n ?_
      refine TQ.then_n ?_
      refine T.region ?_
      refine TL.move hF rfl rfl ?_
      refine TL.add hF rfl rfl (by omega) (by omega) rfl ?_
      refine TL.assign hF rfl rfl ?_
      refine TL.nil ?_
      have hb1 : s.testBit j = true := by rw [← bit_and]; exact g11_36
      have hmem : decide ((j : Int) ∈ out ++ bitsC j (newC out s)) = decide ((j : Int) ∈ out) := by
       rw [Bool.eq_iff_iff, decide_eq_true_eq, decide_eq_true_eq, List.mem_append]
       exact ⟨fun h => h.elim id (fun h => by have := (mem_bitsC.1 h).1; omega), .inl⟩
      have e1 : out ++ bitsC (j + 1) (newC out s) = out ++ bitsC j (newC out s) := by rw [bitsC_succ, if_neg (by unfold newC; rw [hb1, ← hmem, Bool.true_and]; rw [show (!decide ((j : Int) ∈ out ++ bitsC j (newC out s))) = false from ht41]; decide), List.append_nil]
      refine TQ.round (j + 1, oa, oc, og) ⟨by omega, by rw [e1]; exact ho⟩ (by dsimp only; omega) ⟨rfl, rfl, rfl, congrArg (fun l : List Int => some (Value.slice oa l.length oc)) e1.symm, rfl, rfl, rfl, trivial⟩ rfl
    ·refine TL.off hF rfl rfl rfl g11_36 rfl ?_
     refine TL.off hF rfl rfl rfl g11_36 rfl ?_
     refine TL.off hF rfl rfl rfl g11_36 rfl ?_
     refine TL.off hF rfl rfl rfl g11_36 rfl ?_
     refine TL.pickF hF rfl g11_36 rfl rfl ?_
     refine TL.nil ?_
     refine TQ.then_n ?_
     refine T.cond_f rfl rfl ?_
     refine T.skip ?_
     refine TQ.block_n ?_
     refine TQ.then_n ?_
     refine T.region ?_
     refine TL.move hF rfl rfl ?_
     refine TL.add hF rfl rfl (by omega) (by omega) rfl ?_
     refine TL.assign hF rfl rfl ?_
     refine TL.nil ?_
     have hb1 : s.testBit j = false := by rw [← bit_and]; exact g11_36
     have e1 : out ++ bitsC (j + 1) (newC out s) = out ++ bitsC j (newC out s) := by rw [bitsC_succ, if_neg (by unfold newC; rw [hb1]; simp), List.append_nil]
     refine TQ.round (j + 1, oa, oc, og) ⟨by omega, by rw [e1]; exact ho⟩ (by dsimp only; omega) ⟨rfl, rfl, rfl, congrArg (fun l : List Int => some (Value.slice oa l.length oc)) e1.symm, rfl, rfl, rfl, trivial⟩ rfl
   ·refine T.exit ?_
    refine TQ.then_x ?_
    refine TQ.then_x ?_
    refine TQ.block_x ?_
    refine TQ.block_n ?_
    refine TQ.then_n ?_
    refine T.region ?_
    refine TL.move hF rfl rfl ?_
    refine TL.add hF rfl rfl (by omega) (by omega) rfl ?_
    refine TL.assign hF rfl rfl ?_
    refine TL.nil ?_
    have hjm : j = m := by have h : ¬ (j : Int) < (m : Int) := ht28; omega
    subst hjm
    have e1 : (((ch ++ [((2 ^ j - 1 : Nat) : Int)]).take (i + 1)).foldl (stepR j) []) = out ++ bitsC j (newC out s) := by rw [hfs]; unfold stepR; rw [Int.toNat_natCast]
    refine TQ.round (i + 1, oa, oc, og) ⟨by omega, by rw [e1]; exact ho⟩ (by dsimp only; omega) ⟨rfl, rfl, rfl, congrArg (fun l : List Int => some (Value.slice oa l.length oc)) e1.symm, rfl, trivial⟩ rfl
 ·refine T.exit ?_
  refine TQ.then_x ?_
  refine TQ.then_x ?_
  refine TQ.block_x ?_
  refine TQ.then_n ?_
  refine T.seq ?_
  refine T.region ?_
  refine TL.move hF rfl rfl ?_
  refine TL.assign hF rfl rfl ?_
  refine TL.nil ?_
  refine TQ.then_n ?_
  refine T.ret ?_
  refine TQ.rets [4] _ rfl rfl rfl ?_
  have hin : i = ch.length + 1 := by have h : ¬ (i : Int) ≤ (ch.length : Int) := ht12; omega
  have e : (((ch ++ [((2 ^ m - 1 : Nat) : Int)]).take i).foldl (stepR m) []) = orderS m ch := by unfold orderS; rw [List.take_of_length_le (by simp; omega)]
  rw [e] at ho
  exact ⟨oa, oc, og, by rw [e]; rfl, ho, rfl⟩
theorem orderS_len (m : Nat) (ch : List Int) (hm : m ≤ 10) (hl : ch.length ≤ 25) : (orderS m ch).length ≤ 260 := by
 have h := fold_len m (ch ++ [((2 ^ m - 1 : Nat) : Int)]) []
 unfold orderS
 rw [List.length_append, List.length_singleton, List.length_nil, Nat.zero_add] at h
 have h2 : m * (ch.length + 1) ≤ 10 * 26 := Nat.mul_le_mul hm (by omega)
 omega
theorem chainV_ok {L : List Int} (hR : RisOk L) : ∀ (f j : Nat), j < L.length → (∀ x ∈ chainV L (nextsS L) f j, x ∈ L) ∧ (chainV L (nextsS L) f j).length ≤ f
 | 0, _, _ => ⟨fun _ h => by simp [chainV] at h, Nat.zero_le _⟩
 | f + 1, j, hj => by
  unfold chainV
  split
  ·rename_i h0
   obtain ⟨p, hp, hjp, hpl⟩ := next_at hR.up hR.sets hj h0
   have ih := chainV_ok hR f p hpl
   rw [hp, Int.toNat_natCast]
   refine ⟨fun x hx => ?_, by rw [List.length_cons]; omega⟩
   rcases List.mem_cons.1 hx with rfl | hx
   ·rcases nextsG_ok (l := L) (av := L) (left := (matchN L L : Nat)) hj with q | ⟨q1, _⟩
    ·unfold nextsS at h0; omega
    ·exact q1
   ·exact ih.1 x hx
  ·exact ⟨fun _ h => by simp at h, Nat.zero_le _⟩
theorem chains_ok {L : List Int} (hR : RisOk L) : ∀ ch ∈ chainsR L, (∀ x ∈ ch, x ∈ L) ∧ ch.length ≤ 25 := fun ch h => by
 obtain ⟨i, hi, rfl⟩ := List.mem_map.1 h
 have hi := List.mem_range.1 (List.mem_filter.1 hi).1
 have h1 := chainV_ok hR L.length i hi
 have := hR.le
 refine ⟨fun x hx => ?_, by rw [List.length_cons]; omega⟩
 rcases List.mem_cons.1 hx with rfl | hx
 ·rw [List.getD_eq_getElem?_getD, List.getElem?_eq_getElem hi]; exact List.getElem_mem hi
 ·exact h1.1 x hx
def ordersS (cols : Int) (l : List Int) : List (List Int) × Int := if checkE cols l = 0 then ((chainsR (risingS l)).map (orderS cols.toNat), 0) else ([], checkE cols l)
theorem tx_take {ps : List HL} {i : Nat} (h : i < ps.length) : (tx ps).take (i + 1) = (tx ps).take i ++ [ps[i].2.1] := by rw [List.take_succ_eq_append_getElem (by rw [tx_len]; exact h), tx_get h]
set_option maxHeartbeats 2000000 in
theorem Orders_ref {a : Option Addr} {l : List Int} {c : Nat} (cols : Int) (hx : Row S w0 [] a (ints l)) (hl : l.length < 2 ^ 63) (hc : l.length ≤ c) :
  Rt Tryd.prog 17 [.int .i64 cols, .slice a l.length c].toArray S w0 η (ResL S w0 (ordersS cols l) η) := by
 have hF := open_wide
 refine Rt.of (fn := Tryd.f17) Tryd.func17 rfl rfl ?_
 refine T.seq ?_
 refine T.region ?_
 refine TL.assign hF rfl rfl ?_
 refine TL.assign hF rfl rfl ?_
 refine TL.nil ?_
 refine TQ.then_n ?_
 refine T.seq ?_
 refine T.region ?_
 refine TL.move hF rfl rfl ?_
 refine TL.move hF rfl rfl ?_
 refine TL.call hF (Chains_ref cols hx hl hc) rfl rfl ?_
 rintro _ _ ⟨qa, qc, qs, segs, rfl, htq, hq, rfl⟩
 have hce : (chainsS cols l).2 = checkE cols l := by unfold chainsS; split <;> simp [*]
 rw [hce]
 refine TL.move hF rfl rfl ?_
 refine TL.extract hF rfl rfl rfl ?_
 refine TL.extract hF rfl rfl rfl ?_
 refine TL.assign hF rfl rfl ?_
 refine TL.assign hF rfl rfl ?_
 refine TL.nil ?_
 refine TQ.then_n ?_
 refine T.seq ?_
 refine T.seq ?_
 refine T.region ?_
 refine TL.move hF rfl rfl ?_
 refine TL.bin hF rfl rfl rfl rfl ?_
 refine TL.nil ?_
 refine TQ.then_n ?_
 refine T.cond_d rfl (fun ht17 => ?_) (fun ht17 => ?_)
 ·refine T.seq ?_
  refine T.region ?_
  refine TL.move hF rfl rfl ?_
  refine TL.assign hF rfl rfl ?_
  refine TL.assign hF rfl rfl ?_
  refine TL.nil ?_
  refine TQ.then_n ?_
  refine T.ret ?_
  refine TQ.then_r ?_
  refine TQ.rets [4, 5] _ rfl rfl rfl ?_
  have e : ordersS cols l = ([], checkE cols l) := by unfold ordersS; rw [if_neg ht17]
  rw [e]; exact ⟨none, 0, [], segs, rfl, rfl, LL.none, rfl⟩
 ·refine T.skip ?_
  refine TQ.then_n ?_
  refine T.seq ?_
  refine T.region ?_
  refine TL.assign hF rfl rfl ?_
  refine TL.nil ?_
  refine TQ.then_n ?_
  refine T.seq ?_
  refine T.seq ?_
  refine T.region ?_
  refine TL.assign hF rfl rfl ?_
  refine TL.nil ?_
  refine TQ.then_n ?_
  refine T.block ?_
  have hk : checkE cols l = 0 := by omega
  have hRis := ris_ok hk
  have hcols := (checkE_ok hk).1
  obtain ⟨m, rfl⟩ : ∃ m : Nat, cols = (m : Int) := ⟨cols.toNat, by omega⟩
  have hm : m ≤ 10 := by omega
  have hchE : chainsS (m : Int) l = (chainsR (risingS l), 0) := by unfold chainsS; rw [if_pos hk]
  rw [hchE] at htq
  have htq : tx qs = chainsR (risingS l) := htq
  have hok := chains_ok hRis
  rw [← htq] at hok
  have hRl := hRis.le
  have hRs := hRis.sets
  have hql : qs.length ≤ 24 := by rw [← tx_len, htq]; exact Nat.le_trans (chainN_len _ _ _) hRl
  rw [hk]
  refine T.freeze segs rfl (fun S1 w1 hz1 => ?_)
  have hq1 := hq.frz hz1
  refine T.hnil ?_
  refine T.loop (ι := Nat × Option Addr × Nat × List (HL × Seg) × Seg) (fun z => match z with | (i, oa, oc, outs, og) => i ≤ qs.length ∧ outs.length = i ∧ OL 22 (.slice oa outs.length oc) outs og ∧ outs.map (fun t => t.1.2.1) = ((tx qs).take i).map (orderS m)) (fun z => match z with | (i, oa, oc, outs, og) => [(0, .int .i64 (m : Int)), (4, .slice none 0 0), (5, .int .i64 0), (6, .slice qa qs.length qc), (8, .slice oa outs.length oc), (9, .int .i64 (i : Int))]) (fun z => match z with | (i, oa, oc, outs, og) => og :: (outs.reverse.map (·.2) ++ η)) (fun z => qs.length - z.1) (0, none, 0, [], []) ⟨Nat.zero_le _, rfl, ⟨OSl.nil _ _, fun t ht => by simp at ht⟩, rfl⟩ ⟨rfl, rfl, rfl, rfl, rfl, rfl, trivial⟩ rfl ?_
  rintro ⟨i, oa, oc, outs, og⟩ ⟨hi, hoi, hol, hto⟩
  refine T.seq ?_
  refine T.seq ?_
  refine T.region ?_
  refine TL.move hF rfl rfl ?_
  refine TL.move hF rfl rfl ?_
  refine TL.len hF rfl rfl ?_
  refine TL.bin hF rfl rfl rfl rfl ?_
  refine TL.nil ?_
  refine TQ.then_n ?_
  first | refine T.cond_d rfl (fun ht22 => ?_) (fun ht22 => ?_) | refine T.cond _ rfl (fun ht22 => ?_) (fun ht22 => ?_)
  ·refine T.skip ?_
   refine TQ.then_n ?_
   refine T.seq ?_
   refine T.block ?_
   refine T.region ?_
   refine TL.move hF rfl rfl ?_
   refine TL.move hF rfl rfl ?_
   refine TL.move hF rfl rfl ?_
   refine TL.move hF rfl rfl ?_
   have hiq : i < qs.length := by have h : (i : Int) < (qs.length : Int) := ht22; omega
   have hci := hok _ (List.mem_map_of_mem (List.getElem_mem hiq))
   refine TL.indexAddr hF rfl rfl (hq1.ad (i := i) hiq) (by omega) (by omega) rfl ?_
   refine TL.load hF rfl (hq1.ro.at (i := i) hiq) rfl ?_
   refine TL.call hF (Order_ref (hq1.it hiq) (fun x hx2 => hRs x (hci.1 x hx2)) hci.2 hm) rfl rfl ?_
   rintro _ _ ⟨ca, cc, cg, rfl, hcg, rfl⟩
   refine TL.buildSlice hF rfl (cs := #[.slice ca (orderS m qs[i].2.1).length cc]) (e := 22) (fun w => by kernel_rfl) rfl (fun b32 => ?_)
   refine TL.append hF 2 rfl rfl rfl hol.o (row_own (cs := [.slice ca (orderS m qs[i].2.1).length cc]) (e := 22) (by simp)).src rfl rfl (by simp [Value.oneCell']) (by omega) (by omega) rfl (fun pa pc pg ph => ?_)
   refine TL.assign hF rfl rfl ?_
   refine TL.nil ?_
   refine TQ.block_n ?_
   refine TQ.then_n ?_
   refine T.region ?_
   refine TL.move hF rfl rfl ?_
   refine TL.add hF rfl rfl (by omega) (by omega) rfl ?_
   refine TL.assign hF rfl rfl ?_
   refine TL.nil ?_
   have e4 : outs.length + 1 = (outs ++ [(((ca, orderS m qs[i].2.1, cc) : HL), cg)]).length := by simp
   refine TQ.pick [2, 1] [_, _, _] rfl rfl rfl ?_
   refine TQ.round (i + 1, pa, pc, outs ++ [((ca, orderS m qs[i].2.1, cc), cg)], pg) ⟨by omega, by simp [hoi], ⟨?_, ?_⟩, ?_⟩ (by dsimp only; omega) ⟨rfl, rfl, rfl, rfl, congrArg (fun n : Nat => some (Value.slice pa n pc)) e4, rfl, trivial⟩ (by simp [pickL])
   ·rw [← e4, List.map_append]; exact ph
   ·intro t ht
    rcases List.mem_append.1 ht with h | h
    ·exact hol.i t h
    ·rw [List.mem_singleton.1 h]; exact hcg
   ·rw [List.map_append, hto, tx_take hiq, List.map_append]; rfl
  ·refine T.exit ?_
   refine TQ.then_x ?_
   refine TQ.then_x ?_
   refine TQ.block_x ?_
   refine TQ.then_n ?_
   refine T.seq ?_
   refine T.region ?_
   refine TL.move hF rfl rfl ?_
   refine TL.assign hF rfl rfl ?_
   refine TL.assign hF rfl rfl ?_
   refine TL.nil ?_
   refine TQ.then_n ?_
   refine T.ret ?_
   have hin : i = qs.length := by have h : ¬ (i : Int) < (qs.length : Int) := ht22; omega
   refine TQ.thaw hz1 ?_
   refine TQ.rets [4, 5] _ rfl rfl rfl ?_
   have e : ordersS (m : Int) l = ((chainsR (risingS l)).map (orderS m), 0) := by unfold ordersS; rw [if_pos hk, Int.toNat_natCast]
   rw [e]
   refine ⟨oa, oc, outs.map (·.1), segs ++ (og :: outs.reverse.map (·.2)), by rw [List.length_map]; rfl, ?_, hol.ll (by simp) (fun t ht => by simp only [List.mem_append, List.mem_cons, List.mem_map, List.mem_reverse]; right; right; exact ⟨t, ht, rfl⟩), by simp [List.append_assoc]⟩
   unfold tx
   rw [List.map_map]
   have h1 : (outs.map fun t => t.1.2.1) = (chainsR (risingS l)).map (orderS m) := by rw [hto, hin, List.take_of_length_le (by rw [tx_len]; omega), htq]
   exact h1
end Go.Proofs.YtfnalecnnmkgbaaDoor
/- The witness, and what orders serve, by the specification. -/
namespace Go.Proofs.YtfnalecnnmkgbaaDoor
open Go.Sl
variable {S : Nat → Prop} {w0 : World} {η : Heap}
theorem few_own {ηr η2 : Heap} {a : Option Addr} {l : List Int} {c : Nat} (hx : Row S w0 ηr a (ints l)) (hl : l.length < 4294967296) (hsl : Sets l) : Rt Tryd.prog 35 [.slice a l.length c].toArray S w0 (ηr ++ η2) (fun v η' => v = .int .i64 (fewN l) ∧ η' = ηr ++ η2) :=
 Rt.frame ηr rfl fun S' w1 hz hb => (few_ref (c := c) (hx.frz hz) hl hsl).mono fun v η' ⟨h1, h2⟩ => ⟨h1, by rw [h2]⟩
def apL (l : List Int) (n : Int) : List Int := l.filter (apartR n)
theorem apart_own {ηr η2 : Heap} {a : Option Addr} {xs : List Int} {c : Nat} (n : Int) (hx : Row S w0 ηr a (ints xs)) (hl : xs.length < 4294967296) (hs : Sets xs) (hn : 0 ≤ n ∧ n < 1024) : Rt Tryd.prog 52 [.slice a xs.length c, .int .i64 n].toArray S w0 (ηr ++ η2) (fun v η' => ∃ oa oc og, v = .slice oa (apL xs n).length oc ∧ OSl 3 1 (.slice oa (apL xs n).length oc) (apL xs n).length (ints (apL xs n)) og ∧ η' = ηr ++ og :: η2) :=
 Rt.frame ηr rfl fun S' w1 hz hb => (apart_ref (c := c) n (hx.frz hz) hl hs hn).mono fun v η' ⟨oa, oc, og, h1, h2, h3⟩ => ⟨oa, oc, og, h1, h2, by rw [h3]⟩
/-- The witness, search by search. -/
def witG (want : Int) : Nat → List Int → List Int → List Int
 | 0, _, out => out
 | _ + 1, [], out => out
 | f + 1, n :: r, out => if (out.length : Int) + 1 + fewN (apL r n) = want then witG want f (apL r n) (out ++ [n]) else witG want f r out
theorem witG_nil (want : Int) (f : Nat) (out : List Int) : witG want f [] out = out := by cases f <;> rfl
def witnessS (cols : Int) (l : List Int) : List Int × Int := if checkE cols l = 0 then (witG (fewN (risingS l)) (risingS l).length (risingS l) [], 0) else ([], checkE cols l)
theorem apL_len (l : List Int) (n : Int) : (apL l n).length ≤ l.length := List.length_filter_le _ _
theorem fewN_range (l : List Int) : 0 ≤ fewN l ∧ fewN l ≤ l.length := by have := matchN_le l l; unfold fewN; omega
def ResT (S : Nat → Prop) (w0 : World) (r : List Int × Int) (η : Heap) (v : Value) (η' : Heap) : Prop := ∃ a cap segs, v = .tuple #[.slice a r.1.length cap, .int .i64 r.2] ∧ Row S w0 segs a (ints r.1) ∧ η' = segs ++ η
set_option maxHeartbeats 2000000 in
theorem Witness_ref {a : Option Addr} {l : List Int} {c : Nat} (cols : Int) (hx : Row S w0 [] a (ints l)) (hl : l.length < 2 ^ 63) (hc : l.length ≤ c) :
  Rt Tryd.prog 19 [.int .i64 cols, .slice a l.length c].toArray S w0 η (ResT S w0 (witnessS cols l) η) := by
 have hF := open_wide
 refine Rt.of (fn := Tryd.f19) Tryd.func19 rfl rfl ?_
 refine T.seq ?_
 refine T.region ?_
 refine TL.assign hF rfl rfl ?_
 refine TL.assign hF rfl rfl ?_
 refine TL.nil ?_
 refine TQ.then_n ?_
 refine T.seq ?_
 refine T.seq ?_
 refine T.region ?_
 refine TL.move hF rfl rfl ?_
 refine TL.move hF rfl rfl ?_
 refine TL.callV hF (Check_ref cols hx hl hc) rfl rfl ?_
 refine TL.assign hF rfl rfl ?_
 refine TL.nil ?_
 refine TQ.then_n ?_
 refine T.seq ?_
 refine T.region ?_
 refine TL.move hF rfl rfl ?_
 refine TL.bin hF rfl rfl rfl rfl ?_
 refine TL.nil ?_
 refine TQ.then_n ?_
 refine T.cond_d rfl (fun ht16 => ?_) (fun ht16 => ?_)
 ·refine T.seq ?_
  refine T.region ?_
  refine TL.move hF rfl rfl ?_
  refine TL.assign hF rfl rfl ?_
  refine TL.assign hF rfl rfl ?_
  refine TL.nil ?_
  refine TQ.then_n ?_
  refine T.ret ?_
  refine TQ.then_r ?_
  refine TQ.rets [4, 5] _ rfl rfl rfl ?_
  have e : witnessS cols l = ([], checkE cols l) := by unfold witnessS; rw [if_neg ht16]
  rw [e]; exact ⟨none, 0, [], rfl, Row.none, rfl⟩
 ·refine T.skip ?_
  refine TQ.then_n ?_
  refine T.seq ?_
  refine T.region ?_
  refine TL.move hF rfl rfl ?_
  have hk : checkE cols l = 0 := by omega
  have hRis := ris_ok hk
  obtain ⟨_, hl24, _, _, _⟩ := checkE_ok hk
  refine TL.call hF (rising_ref hx (by omega)) rfl rfl ?_
  rintro _ _ ⟨ra, rc, rg, rfl, hro, rfl⟩
  refine TL.freeze [rg] rfl (fun S1 w1 hz1 => ?_)
  have hrr : Row S1 w1 [] ra (ints (risingS l)) := (hro.row (η := [rg]) List.mem_cons_self).frz hz1
  have hrl := risingS_len l
  have hcap := osl_cap hro
  have hchE : witnessS cols l = (witG (fewN (risingS l)) (risingS l).length (risingS l) [], 0) := by unfold witnessS; rw [if_pos hk]
  rw [hchE]
  rw [← hrl] at hcap ⊢
  clear hro hrl hchE
  generalize risingS l = L at hRis hrr hcap ⊢
  have hL24 := hRis.le
  have hsL := hRis.sets
  refine TL.assign hF rfl rfl ?_
  refine TL.nil ?_
  refine TQ.then_n ?_
  refine T.seq ?_
  refine T.region ?_
  refine TL.move hF rfl rfl ?_
  refine TL.callV hF (few_ref hrr (by omega) hsL) rfl rfl ?_
  refine TL.assign hF rfl rfl ?_
  refine TL.nil ?_
  refine TQ.then_n ?_
  refine T.seq ?_
  refine T.region ?_
  refine TL.assign hF rfl rfl ?_
  refine TL.nil ?_
  refine TQ.then_n ?_
  refine T.seq ?_
  refine T.block ?_
  have hfr := fewN_range L
  refine T.hnil ?_
  refine T.hnil ?_
  refine T.loop (ι := Nat × List Int × Option Addr × Nat × Seg × List Int × Option Addr × Nat × Seg) (fun z => match z with | (fu, lf, la, lc, lg, out, oa, oc, og) => lf.length ≤ fu ∧ (∀ x ∈ lf, 1 ≤ x ∧ x < 1024) ∧ lf.length ≤ lc ∧ Row S1 w1 [lg] la (ints lf) ∧ OSl 3 1 (.slice oa out.length oc) out.length (ints out) og ∧ out.length + lf.length ≤ 24 ∧ witG (fewN L) fu lf out = witG (fewN L) L.length L []) (fun z => match z with | (fu, lf, la, lc, lg, out, oa, oc, og) => [(4, .slice none 0 0), (5, .int .i64 0), (8, .int .i64 (fewN L)), (7, .slice la lf.length lc), (9, .slice oa out.length oc)]) (fun z => match z with | (fu, lf, la, lc, lg, out, oa, oc, og) => og :: lg :: η) (fun z => z.1) (L.length, L, ra, rc, [], [], none, 0, []) ⟨Nat.le_refl _, hRis.pos, hcap, hrr.ro, OSl.nil _ _, by simpa using hL24, rfl⟩ ⟨rfl, rfl, rfl, rfl, rfl, trivial⟩ rfl ?_
  rintro ⟨fu, lf, la, lc, lg, out, oa, oc, og⟩ ⟨hfu, hpos, hlc, hla, ho, hlen, hw⟩
  refine T.seq ?_
  refine T.seq ?_
  refine T.region ?_
  refine TL.move hF rfl rfl ?_
  refine TL.len hF rfl rfl ?_
  refine TL.bin hF rfl rfl rfl rfl ?_
  refine TL.nil ?_
  refine TQ.then_n ?_
  first | refine T.cond_d rfl (fun ht24 => ?_) (fun ht24 => ?_) | refine T.cond _ rfl (fun ht24 => ?_) (fun ht24 => ?_)
  ·refine T.skip ?_
   refine TQ.then_n ?_
   refine T.block ?_
   refine T.seq ?_
   have hl0 : 0 < lf.length := by have h : (lf.length : Int) > 0 := ht24; omega
   obtain ⟨n, r, rfl⟩ : ∃ n r, lf = n :: r := by
    cases lf with
    | nil => simp at hl0
    | cons n r => exact ⟨n, r, rfl⟩
   have hn := hpos n List.mem_cons_self
   have hnv : ((n :: r)[0]'(by simp)) = n := rfl
   have hsr : Sets r := fun x hx2 => by have := hpos x (List.mem_cons_of_mem _ hx2); omega
   have hrt : Row S1 w1 [lg] (if lc = 1 then la else la.map (·.add (1 * 1))) (ints r) := row_tail (l := n :: r) hla (by simp) hlc
   rw [List.length_cons] at hlc hfu hlen
   refine T.draw ?_
   refine DR.stepV [_] rfl [(7, _, none)] rfl rfl ⟨⟨rfl, by kernel_rfl⟩, trivial⟩ (fun ext => TL.move hF rfl rfl TL.fin) ?_
   refine DR.stepV [_, _] rfl [(25, _, some 0)] rfl rfl ⟨⟨rfl, rfl, rfl⟩, trivial⟩ (fun ext => TL.indexAddr hF rfl rfl (hla.adi (i := 0) (by simp)) (by omega) (by simp) rfl TL.fin) ?_
   refine DR.stepV [_, _, _] rfl [(26, _, some 1)] rfl rfl ⟨⟨rfl, rfl, rfl⟩, trivial⟩ (fun ext => TL.load hF rfl (v := .int .i64 n) ((hla.up (by simp)).cell 0 _ rfl) rfl TL.fin) ?_
   refine DR.stepV [_, _, _, _] rfl [(7, _, none)] rfl rfl ⟨⟨rfl, by kernel_rfl⟩, trivial⟩ (fun ext => TL.move hF rfl rfl TL.fin) ?_
   refine DR.stepV [_, _, _, _, _] rfl [(28, _, some 3)] rfl rfl ⟨⟨rfl, rfl, rfl⟩, trivial⟩ (fun ext => (by
      refine TL.slice hF (i := 1) (j := r.length + 1) rfl rfl rfl (by omega) (by omega) rfl ?_
      rw [show r.length + 1 - 1 = r.length by omega]
      exact TL.fin)) ?_
   refine DR.stepV [_, _, _, _, _, _] rfl [(27, _, some 2)] rfl rfl ⟨⟨rfl, rfl, rfl⟩, trivial⟩ (fun ext => TL.assign hF rfl rfl TL.fin) ?_
   refine DR.done [(10, _), (29, _), (28, _), (27, _), (26, _), (25, _)] [_] mixed (by kernel_rfl) (by kernel_rfl) (by kernel_rfl) rfl rfl ?_
   refine TL.assign hF rfl rfl ?_
   refine TL.nil ?_
   refine TQ.then_n ?_
   refine T.seq ?_
   refine T.seq ?_
   refine T.region ?_
   refine TL.move hF rfl rfl ?_
   refine TL.len hF rfl rfl ?_
   refine TL.add hF rfl rfl (by omega) (by omega) rfl ?_
   refine TL.move hF rfl rfl ?_
   refine TL.move hF rfl rfl ?_
   have hal := apL_len r n
   refine TL.pick' [1, 0] [_, _] rfl rfl rfl ?_
   refine TL.call hF (apart_own (ηr := [lg]) (η2 := og :: η) n hrt (by omega) hsr (by omega)) rfl rfl ?_
   rintro _ _ ⟨wa, wc, wg, rfl, hwo, rfl⟩
   have hsa : Sets (apL r n) := fun x hx2 => hsr x (List.mem_filter.1 hx2).1
   have hfa := fewN_range (apL r n)
   refine TL.callV hF (few_own (ηr := [lg, wg]) (η2 := og :: η) (hwo.row (by simp)) (by omega) hsa) rfl rfl ?_
   refine TL.add hF rfl rfl (by omega) (by omega) rfl ?_
   refine TL.move hF rfl rfl ?_
   refine TL.bin hF rfl rfl rfl rfl ?_
   refine TL.nil ?_
   refine TQ.then_n ?_
   refine T.cond_d rfl (fun ht39 => ?_) (fun ht39 => ?_)
   ·refine T.region ?_
    refine TL.move hF rfl rfl ?_
    refine TL.move hF rfl rfl ?_
    refine TL.buildSlice hF rfl (cs := #[.int .i64 n]) (e := 3) (fun w => by kernel_rfl) rfl (fun b42 => ?_)
    refine TL.append hF 3 rfl rfl rfl ho (row_own (cs := [.int .i64 n]) (e := 3) (by simp)).src rfl rfl (by simp [Value.oneCell']) (by omega) (by omega) rfl (fun pa pc pg ph => ?_)
    rw [← ints_app] at ph
    refine TL.move hF rfl rfl ?_
    refine TL.move hF rfl rfl ?_
    refine TL.pick' [1, 0, 2, 3] [_, _, _, _] rfl rfl rfl ?_
    refine TL.call hF (apart_own (ηr := [lg]) (η2 := [(b42, Obj.cells #[.int .i64 n] 3 (0, 0))] :: wg :: pg :: η) n hrt (by omega) hsr (by omega)) rfl rfl ?_
    rintro _ _ ⟨xa, xc, xg, rfl, hxo, rfl⟩
    have hxc := osl_cap hxo
    refine TL.assign hF rfl rfl ?_
    refine TL.assign hF rfl rfl ?_
    refine TL.nil ?_
    refine TQ.then_n ?_
    refine T.region ?_
    refine TL.move hF rfl rfl ?_
    refine TL.assign hF rfl rfl ?_
    refine TL.nil ?_
    refine TQ.block_n ?_
    obtain ⟨f1, hfe⟩ : ∃ f1, fu = f1 + 1 := ⟨fu - 1, by omega⟩
    subst hfe
    have hstep : witG (fewN L) (f1 + 1) (n :: r) out = if (out.length : Int) + 1 + fewN (apL r n) = fewN L then witG (fewN L) f1 (apL r n) (out ++ [n]) else witG (fewN L) f1 r out := rfl
    rw [hstep] at hw
    rw [if_pos ht39] at hw
    refine TQ.pick [4, 1] [_, _, _, _, _] rfl rfl rfl ?_
    refine TQ.round (f1, apL r n, xa, xc, xg, out ++ [n], pa, pc, pg) ⟨by omega, fun x hx2 => hpos x (List.mem_cons_of_mem _ (List.mem_filter.1 hx2).1), hxc, hxo.row List.mem_cons_self, by simpa using ph, by simp; omega, hw⟩ (by dsimp only; omega) ⟨rfl, rfl, rfl, rfl, congrArg (fun n : Nat => some (Value.slice pa n pc)) (by simp), trivial⟩ rfl
   ·refine T.skip ?_
    refine TQ.then_n ?_
    refine T.region ?_
    refine TL.move hF rfl rfl ?_
    refine TL.assign hF rfl rfl ?_
    refine TL.nil ?_
    refine TQ.block_n ?_
    obtain ⟨f1, hfe⟩ : ∃ f1, fu = f1 + 1 := ⟨fu - 1, by omega⟩
    subst hfe
    have hstep : witG (fewN L) (f1 + 1) (n :: r) out = if (out.length : Int) + 1 + fewN (apL r n) = fewN L then witG (fewN L) f1 (apL r n) (out ++ [n]) else witG (fewN L) f1 r out := rfl
    rw [hstep] at hw
    rw [if_neg ht39] at hw
    refine TQ.pick [2, 0] [_, _, _] rfl rfl rfl ?_
    refine TQ.round (f1, r, _, lc - 1, lg, out, oa, oc, og) ⟨by omega, fun x hx2 => hpos x (List.mem_cons_of_mem _ hx2), by omega, hrt, ho, by omega, hw⟩ (by dsimp only; omega) ⟨rfl, rfl, rfl, rfl, rfl, trivial⟩ rfl
  ·refine T.exit ?_
   refine TQ.then_x ?_
   refine TQ.then_x ?_
   refine TQ.block_x ?_
   refine TQ.then_n ?_
   refine T.seq ?_
   refine T.region ?_
   refine TL.move hF rfl rfl ?_
   refine TL.assign hF rfl rfl ?_
   refine TL.assign hF rfl rfl ?_
   refine TL.nil ?_
   refine TQ.then_n ?_
   refine T.ret ?_
   have hl0 : lf.length = 0 := by have h : ¬ (lf.length : Int) > 0 := ht24; omega
   have hle := List.eq_nil_of_length_eq_zero hl0
   subst hle
   rw [witG_nil] at hw
   refine TQ.thaw hz1 ?_
   refine TQ.rets [4, 5] _ rfl rfl rfl ?_
   rw [← hw]
   exact ⟨oa, oc, [rg, og, lg], rfl, ho.row (by simp), rfl⟩
/-- What an order's first columns make, up to a search. -/
def srv (s : Nat) : List Int → Nat → Nat
 | [], f => f
 | x :: r, f => if f &&& s = f ∧ f ≠ s then srv s r (f ||| 2 ^ x.toNat) else f
def isOrd (l : List Int) : Bool := (List.range l.length).all fun i => decide ((i : Int) ∈ l)
def servesS (l : List Int) (s : Int) : Bool × Int := if l.length < 1 ∨ 10 < l.length ∨ isOrd l = false then (false, 1) else if s < 1 ∨ ((2 ^ l.length : Nat) : Int) ≤ s then (false, 2) else (decide (((srv s.toNat l 0 : Nat) : Int) = s), 0)
theorem ord_range {l : List Int} (h : isOrd l = true) : ∀ x ∈ l, 0 ≤ x ∧ x < (l.length : Int) := fun x hx => by
 by_cases hr : 0 ≤ x ∧ x < (l.length : Int)
 ·exact hr
 ·exfalso
  have h1 : ((List.range l.length).map fun (c : Nat) => (c : Int)).Nodup := List.pairwise_map.2 (List.nodup_range.imp fun h e => h (by omega))
  have h2 := h1.length_le_of_subset (l₂ := l.erase x) (fun y hy => by
   obtain ⟨c, hc, rfl⟩ := List.mem_map.1 hy
   have hc := List.mem_range.1 hc
   have hm : (c : Int) ∈ l := of_decide_eq_true (List.all_eq_true.1 h c (List.mem_range.2 hc))
   exact (List.mem_erase_of_ne (by omega)).2 hm)
  rw [List.length_map, List.length_range, List.length_erase_of_mem hx] at h2
  have := List.length_pos_of_mem hx
  omega
theorem srv_step {s : Nat} {x : Int} {r : List Int} {f : Nat} (h1 : f &&& s = f) (h2 : f ≠ s) : srv s (x :: r) f = srv s r (f ||| 2 ^ x.toNat) := by
 conv => lhs; unfold srv
 rw [if_pos ⟨h1, h2⟩]
theorem srv_stop {s : Nat} {l : List Int} {f : Nat} (h : ¬ (f &&& s = f ∧ f ≠ s)) : srv s l f = f := by
 cases l with
 | nil => rfl
 | cons x r => unfold srv; rw [if_neg h]
set_option maxHeartbeats 2000000 in
theorem Serves_ref {a : Option Addr} {l : List Int} {c : Nat} (s : Int) (hx : Row S w0 η a (ints l)) (hl : l.length < 2 ^ 63) :
  Rt Tryd.prog 25 [.slice a l.length c, .int .i64 s].toArray S w0 η (fun v η' => v = .tuple #[.bool (servesS l s).1, .int .i64 (servesS l s).2] ∧ η' = η) := by
 have hF := open_wide
 refine Rt.of (fn := Tryd.f25) Tryd.func25 rfl rfl ?_
 refine T.seq ?_
 refine T.region ?_
 refine TL.assign hF rfl rfl ?_
 refine TL.assign hF rfl rfl ?_
 refine TL.nil ?_
 refine TQ.then_n ?_
 refine T.seq ?_
 refine T.seq ?_
 refine T.region ?_
 refine TL.move hF rfl rfl ?_
 refine TL.len hF rfl rfl ?_
 refine TL.bin hF rfl rfl rfl rfl ?_
 refine TL.move hF rfl rfl ?_
 refine TL.gd (t := 12) rfl (fun g1_12 => ?_) (fun g1_12 => ?_)
 ·refine TL.off hF rfl rfl rfl (decide_eq_true g1_12) rfl ?_
  refine TL.off hF rfl rfl rfl (decide_eq_true g1_12) rfl ?_
  refine TL.off hF rfl rfl rfl (decide_eq_true g1_12) rfl ?_
  refine TL.pickT hF rfl (decide_eq_true g1_12) rfl rfl ?_
  refine TL.nil ?_
  refine TQ.then_n ?_
  refine T.cond_t rfl rfl ?_
  refine T.seq ?_
  refine T.region ?_
  refine TL.assign hF rfl rfl ?_
  refine TL.assign hF rfl rfl ?_
  refine TL.nil ?_
  refine TQ.then_n ?_
  refine T.ret ?_
  refine TQ.then_r ?_
  refine TQ.rets [4, 5] _ rfl rfl rfl ?_
  exact ⟨by unfold servesS; rw [if_pos (.inl (by omega))]; rfl, rfl⟩
 ·refine TL.on rfl rfl rfl (decide_eq_false g1_12) ?_
  refine TL.move hF rfl rfl ?_
  refine TL.on rfl rfl rfl (decide_eq_false g1_12) ?_
  refine TL.len hF rfl rfl ?_
  refine TL.on rfl rfl rfl (decide_eq_false g1_12) ?_
  refine TL.bin hF rfl rfl rfl rfl ?_
  refine TL.pickF hF rfl (decide_eq_false g1_12) rfl rfl ?_
  refine TL.nil ?_
  refine TQ.then_n ?_
  refine T.cond_d rfl (fun ht16 => ?_) (fun ht16 => ?_)
  ·refine T.seq ?_
   refine T.region ?_
   refine TL.assign hF rfl rfl ?_
   refine TL.assign hF rfl rfl ?_
   refine TL.nil ?_
   refine TQ.then_n ?_
   refine T.ret ?_
   refine TQ.then_r ?_
   refine TQ.rets [4, 5] _ rfl rfl rfl ?_
   exact ⟨by unfold servesS; rw [if_pos (.inr (.inl (by omega)))]; rfl, rfl⟩
  ·refine T.skip ?_
   refine TQ.then_n ?_
   refine T.seq ?_
   refine T.seq ?_
   refine T.region ?_
   refine TL.assign hF rfl rfl ?_
   refine TL.nil ?_
   refine TQ.then_n ?_
   refine T.block ?_
   have hlen : 1 ≤ l.length ∧ l.length ≤ 10 := by omega
   refine T.loop (ι := Nat) (fun i => i ≤ l.length ∧ ∀ j, j < i → (j : Int) ∈ l) (fun i => [(0, .slice a l.length c), (1, .int .i64 s), (4, .bool false), (5, .int .i64 0), (6, .int .i64 (i : Int))]) (fun _ => η) (fun i => l.length - i) 0 ⟨Nat.zero_le _, fun j h => by omega⟩ ⟨rfl, rfl, rfl, rfl, rfl, trivial⟩ rfl ?_
   rintro i ⟨hi, hin⟩
   refine T.seq ?_
   refine T.seq ?_
   refine T.region ?_
   refine TL.move hF rfl rfl ?_
   refine TL.move hF rfl rfl ?_
   refine TL.len hF rfl rfl ?_
   refine TL.bin hF rfl rfl rfl rfl ?_
   refine TL.nil ?_
   refine TQ.then_n ?_
   first | refine T.cond_d rfl (fun ht20 => ?_) (fun ht20 => ?_) | refine T.cond _ rfl (fun ht20 => ?_) (fun ht20 => ?_)
   ·refine T.skip ?_
    refine TQ.then_n ?_
    refine T.seq ?_
    refine T.block ?_
    refine T.seq ?_
    refine T.region ?_
    refine TL.move hF rfl rfl ?_
    refine TL.move hF rfl rfl ?_
    refine TL.callV hF (has_fn (i : Int) hx hl) rfl rfl ?_
    refine TL.not hF rfl rfl ?_
    refine TL.nil ?_
    refine TQ.then_n ?_
    refine T.cond _ rfl (fun ht26 => ?_) (fun ht26 => ?_)
    ·refine T.seq ?_
     refine T.region ?_
     refine TL.assign hF rfl rfl ?_
     refine TL.assign hF rfl rfl ?_
     refine TL.nil ?_
     refine TQ.then_n ?_
     refine T.ret ?_
     refine TQ.block_r ?_
     refine TQ.then_r ?_
     refine TQ.then_r ?_
     refine TQ.block_r ?_
     refine TQ.then_r ?_
     refine TQ.rets [4, 5] _ rfl rfl rfl ?_
     have hno : isOrd l = false := by
      cases h : isOrd l with
      | false => rfl
      | true =>
       have hm := of_decide_eq_true (List.all_eq_true.1 h i (List.mem_range.2 (by omega)))
       rw [decide_eq_true hm] at ht26
       cases ht26
     exact ⟨by unfold servesS; rw [if_pos (.inr (.inr hno))]; rfl, rfl⟩
    ·refine T.skip ?_
     refine TQ.block_n ?_
     refine TQ.then_n ?_
     refine T.region ?_
     refine TL.move hF rfl rfl ?_
     refine TL.add hF rfl rfl (by omega) (by omega) rfl ?_
     refine TL.assign hF rfl rfl ?_
     refine TL.nil ?_
     refine TQ.round (i + 1) ⟨by omega, fun j hj => ?_⟩ (by omega) ⟨rfl, rfl, rfl, rfl, rfl, trivial⟩ rfl
     by_cases e : j = i
     ·subst e; simpa using ht26
     ·exact hin j (by omega)
   ·refine T.exit ?_
    refine TQ.then_x ?_
    refine TQ.then_x ?_
    refine TQ.block_x ?_
    refine TQ.then_n ?_
    refine T.seq ?_
    refine T.seq ?_
    refine T.region ?_
    refine TL.move hF rfl rfl ?_
    have hil : i = l.length := by omega
    subst hil
    have hord : isOrd l = true := List.all_eq_true.2 fun j hj => decide_eq_true (hin j (List.mem_range.1 hj))
    have hrng := ord_range hord
    have hp := two_pow hlen.2
    refine TL.bin hF rfl rfl rfl rfl ?_
    refine TL.move hF rfl rfl ?_
    refine TL.gd (t := 29) rfl (fun g8_29 => ?_) (fun g8_29 => ?_)
    ·refine TL.off hF rfl rfl rfl (decide_eq_true g8_29) rfl ?_
     refine TL.off hF rfl rfl rfl (decide_eq_true g8_29) rfl ?_
     refine TL.off hF rfl rfl rfl (decide_eq_true g8_29) rfl ?_
     refine TL.off hF rfl rfl rfl (decide_eq_true g8_29) rfl ?_
     refine TL.off hF rfl rfl rfl (decide_eq_true g8_29) rfl ?_
     refine TL.pickT hF rfl (decide_eq_true g8_29) rfl rfl ?_
     refine TL.nil ?_
     refine TQ.then_n ?_
     refine T.cond_t rfl rfl ?_
     refine T.seq ?_
     refine T.region ?_
     refine TL.assign hF rfl rfl ?_
     refine TL.assign hF rfl rfl ?_
     refine TL.nil ?_
     refine TQ.then_n ?_
     refine T.ret ?_
     refine TQ.then_r ?_
     refine TQ.rets [4, 5] _ rfl rfl rfl ?_
     exact ⟨by unfold servesS; rw [if_neg (by rw [hord]; intro h; rcases h with h | h | h <;> first | omega | cases h), if_pos (.inl (by omega))]; rfl, rfl⟩
    ·refine TL.on rfl rfl rfl (decide_eq_false g8_29) ?_
     refine TL.move hF rfl rfl ?_
     refine TL.on rfl rfl rfl (decide_eq_false g8_29) ?_
     refine TL.move hF rfl rfl ?_
     refine TL.on rfl rfl rfl (decide_eq_false g8_29) ?_
     refine TL.len hF rfl rfl ?_
     refine TL.on rfl rfl rfl (decide_eq_false g8_29) ?_
     refine TL.shlS hF (a := 1) (s := l.length) rfl rfl (by omega) (by omega) rfl ?_
     refine TL.on rfl rfl rfl (decide_eq_false g8_29) ?_
     refine TL.bin hF rfl rfl rfl rfl ?_
     refine TL.pickF hF rfl (decide_eq_false g8_29) rfl rfl ?_
     refine TL.nil ?_
     refine TQ.then_n ?_
     refine T.cond_d rfl (fun ht35 => ?_) (fun ht35 => ?_)
     ·refine T.seq ?_
      refine T.region ?_
      refine TL.assign hF rfl rfl ?_
      refine TL.assign hF rfl rfl ?_
      refine TL.nil ?_
      refine TQ.then_n ?_
      refine T.ret ?_
      refine TQ.then_r ?_
      refine TQ.rets [4, 5] _ rfl rfl rfl ?_
      exact ⟨by unfold servesS; rw [if_neg (by rw [hord]; intro h; rcases h with h | h | h <;> first | omega | cases h), if_pos (.inr (by omega))]; rfl, rfl⟩
     ·refine T.skip ?_
      refine TQ.then_n ?_
      refine T.seq ?_
      refine T.region ?_
      refine TL.assign hF rfl rfl ?_
      refine TL.nil ?_
      refine TQ.then_n ?_
      refine T.seq ?_
      refine T.seq ?_
      refine T.region ?_
      refine TL.assign hF rfl rfl ?_
      refine TL.nil ?_
      refine TQ.then_n ?_
      refine T.block ?_
      have hs1 : 1 ≤ s ∧ s < ((2 ^ l.length : Nat) : Int) := by omega
      obtain ⟨t, rfl⟩ : ∃ t : Nat, s = (t : Int) := ⟨s.toNat, by omega⟩
      have hse : servesS l (t : Int) = (decide (((srv t l 0 : Nat) : Int) = (t : Int)), 0) := by
       unfold servesS
       rw [if_neg (by rw [hord]; intro h; rcases h with h | h | h <;> first | omega | cases h), if_neg (by omega), Int.toNat_natCast]
      refine T.loop (ι := Nat × Nat) (fun z => match z with | (i, f) => i ≤ l.length ∧ f < 1024 ∧ srv t l 0 = srv t (l.drop i) f) (fun z => match z with | (i, f) => [(0, .slice a l.length c), (1, .int .i64 (t : Int)), (4, .bool false), (5, .int .i64 0), (7, .int .i64 (f : Int)), (8, .int .i64 (i : Int))]) (fun _ => η) (fun z => l.length - z.1) (0, 0) ⟨Nat.zero_le _, by decide, rfl⟩ ⟨rfl, rfl, rfl, rfl, rfl, rfl, trivial⟩ rfl ?_
      rintro ⟨i, f⟩ ⟨hi, hf, hsv⟩
      refine T.seq ?_
      refine T.seq ?_
      refine T.region ?_
      refine TL.move hF rfl rfl ?_
      refine TL.move hF rfl rfl ?_
      refine TL.len hF rfl rfl ?_
      refine TL.bin hF rfl rfl rfl rfl ?_
      refine TL.move hF rfl rfl ?_
      refine TL.gd (t := 40) rfl (fun g12_40 => ?_) (fun g12_40 => ?_)
      ·refine TL.on rfl rfl rfl (decide_eq_true g12_40) ?_
       refine TL.move hF rfl rfl ?_
       refine TL.on rfl rfl rfl (decide_eq_true g12_40) ?_
       refine TL.move hF rfl rfl ?_
       refine TL.on rfl rfl rfl (decide_eq_true g12_40) ?_
       refine TL.andS hF (a := f) (m := t) rfl rfl (by omega) (by omega) rfl ?_
       refine TL.on rfl rfl rfl (decide_eq_true g12_40) ?_
       refine TL.move hF rfl rfl ?_
       refine TL.on rfl rfl rfl (decide_eq_true g12_40) ?_
       refine TL.bin hF rfl rfl rfl rfl ?_
       refine TL.pickT hF rfl (decide_eq_true g12_40) rfl rfl ?_
       refine TL.move hF rfl rfl ?_
       refine TL.gd (t := 47) rfl (fun g12_47 => ?_) (fun g12_47 => ?_)
       ·refine TL.on rfl rfl rfl (decide_eq_true g12_47) ?_
        refine TL.move hF rfl rfl ?_
        refine TL.on rfl rfl rfl (decide_eq_true g12_47) ?_
        refine TL.move hF rfl rfl ?_
        refine TL.on rfl rfl rfl (decide_eq_true g12_47) ?_
        refine TL.bin hF rfl rfl rfl rfl ?_
        refine TL.pickT hF rfl (decide_eq_true g12_47) rfl rfl ?_
        refine TL.nil ?_
        refine TQ.then_n ?_
        refine T.cond_d rfl (fun ht51 => ?_) (fun ht51 => ?_)
        ·refine T.skip ?_
         refine TQ.then_n ?_
         refine T.seq ?_
         refine T.block ?_
         refine T.region ?_
         refine TL.move hF rfl rfl ?_
         refine TL.move hF rfl rfl ?_
         refine TL.move hF rfl rfl ?_
         have hil : i < l.length := by have h : (i : Int) < (l.length : Int) := g12_40; omega
         have hxr := hrng _ (List.getElem_mem hil)
         obtain ⟨x, hxe⟩ : ∃ x : Nat, l[i] = (x : Int) := ⟨l[i].toNat, by omega⟩
         have hx10 : x < 10 := by omega
         have hp2 : 2 ^ x ≤ 2 ^ 9 := Nat.pow_le_pow_right (by decide) (by omega)
         refine TL.indexAddr hF rfl rfl (hx.adi (i := i) (by simp; omega)) (by omega) (by omega) rfl ?_
         refine TL.load hF rfl (v := .int .i64 (x : Int)) (by rw [← hxe]; exact (hx.int (i := i) hil)) rfl ?_
         refine TL.shlS hF (a := 1) (s := x) rfl rfl (by omega) (by omega) rfl ?_
         rw [Nat.one_mul]
         refine TL.orS hF (a := f) (m := 2 ^ x) rfl rfl (by omega) (by omega) rfl ?_
         refine TL.assign hF rfl rfl ?_
         refine TL.nil ?_
         refine TQ.block_n ?_
         refine TQ.then_n ?_
         refine T.region ?_
         refine TL.move hF rfl rfl ?_
         refine TL.add hF rfl rfl (by omega) (by omega) rfl ?_
         refine TL.assign hF rfl rfl ?_
         refine TL.nil ?_
         refine TQ.round (i + 1, f ||| 2 ^ x) ⟨by omega, Nat.or_lt_two_pow (n := 10) hf (by omega), ?_⟩ (by dsimp only; omega) ⟨rfl, rfl, rfl, rfl, rfl, rfl, trivial⟩ rfl
         have h1 : f &&& t = f := by have h : ((f &&& t : Nat) : Int) = (f : Int) := g12_47; omega
         have h2 : f ≠ t := fun e => ht51 (by rw [e])
         rw [hsv, drop_step hil, srv_step h1 h2, hxe, Int.toNat_natCast]
        ·refine T.exit ?_
         refine TQ.then_x ?_
         refine TQ.then_x ?_
         refine TQ.block_x ?_
         refine TQ.then_n ?_
         refine T.seq ?_
         refine T.region ?_
         refine TL.move hF rfl rfl ?_
         refine TL.move hF rfl rfl ?_
         refine TL.bin hF rfl rfl rfl rfl ?_
         refine TL.assign hF rfl rfl ?_
         refine TL.assign hF rfl rfl ?_
         refine TL.nil ?_
         refine TQ.then_n ?_
         refine T.ret ?_
         refine TQ.rets [4, 5] _ rfl rfl rfl ?_
         have e : srv t l 0 = f := by rw [hsv]; exact srv_stop fun h => h.2 (by have h2 : ¬ (f : Int) ≠ (t : Int) := ht51; omega)
         exact ⟨by rw [hse, e]; rfl, rfl⟩
       ·refine TL.off hF rfl rfl rfl (decide_eq_false g12_47) rfl ?_
        refine TL.off hF rfl rfl rfl (decide_eq_false g12_47) rfl ?_
        refine TL.off hF rfl rfl rfl (decide_eq_false g12_47) rfl ?_
        refine TL.pickF hF rfl (decide_eq_false g12_47) rfl rfl ?_
        refine TL.nil ?_
        refine TQ.then_n ?_
        refine T.cond_f rfl rfl ?_
        refine T.exit ?_
        refine TQ.then_x ?_
        refine TQ.then_x ?_
        refine TQ.block_x ?_
        refine TQ.then_n ?_
        refine T.seq ?_
        refine T.region ?_
        refine TL.move hF rfl rfl ?_
        refine TL.move hF rfl rfl ?_
        refine TL.bin hF rfl rfl rfl rfl ?_
        refine TL.assign hF rfl rfl ?_
        refine TL.assign hF rfl rfl ?_
        refine TL.nil ?_
        refine TQ.then_n ?_
        refine T.ret ?_
        refine TQ.rets [4, 5] _ rfl rfl rfl ?_
        have e : srv t l 0 = f := by rw [hsv]; exact srv_stop fun h => g12_47 (congrArg (fun (n : Nat) => (n : Int)) h.1)
        exact ⟨by rw [hse, e]; rfl, rfl⟩
      ·refine TL.off hF rfl rfl rfl (decide_eq_false g12_40) rfl ?_
       refine TL.off hF rfl rfl rfl (decide_eq_false g12_40) rfl ?_
       refine TL.off hF rfl rfl rfl (decide_eq_false g12_40) rfl ?_
       refine TL.off hF rfl rfl rfl (decide_eq_false g12_40) rfl ?_
       refine TL.off hF rfl rfl rfl (decide_eq_false g12_40) rfl ?_
       refine TL.pickF hF rfl (decide_eq_false g12_40) rfl rfl ?_
       refine TL.move hF rfl rfl ?_
       refine TL.off hF rfl rfl rfl rfl rfl ?_
       refine TL.off hF rfl rfl rfl rfl rfl ?_
       refine TL.off hF rfl rfl rfl rfl rfl ?_
       refine TL.pickF hF rfl rfl rfl rfl ?_
       refine TL.nil ?_
       refine TQ.then_n ?_
       refine T.cond_f rfl rfl ?_
       refine T.exit ?_
       refine TQ.then_x ?_
       refine TQ.then_x ?_
       refine TQ.block_x ?_
       refine TQ.then_n ?_
       refine T.seq ?_
       refine T.region ?_
       refine TL.move hF rfl rfl ?_
       refine TL.move hF rfl rfl ?_
       refine TL.bin hF rfl rfl rfl rfl ?_
       refine TL.assign hF rfl rfl ?_
       refine TL.assign hF rfl rfl ?_
       refine TL.nil ?_
       refine TQ.then_n ?_
       refine T.ret ?_
       refine TQ.rets [4, 5] _ rfl rfl rfl ?_
       have e : srv t l 0 = f := by rw [hsv]; rw [List.drop_of_length_le (by have h : ¬ (i : Int) < (l.length : Int) := g12_40; omega)]; rfl
       exact ⟨by rw [hse, e]; rfl, rfl⟩
end Go.Proofs.YtfnalecnnmkgbaaDoor
/-
  DERIVED: THE SHELF's CONTRACTS AT THIS DUMP, IN PLAIN WORDS (tools/lay-plain.mjs out of 'TrydShelf.lean', which tools/lay-shelf.mjs wrote): THE SAME DECLARATIONS UNDER THE SAME NAMES: 'import', 'namespace', 'open', 'def', 'theorem' AND NOTHING ELSE: no command of the shelf's: FOR A HAND-IN. Each laying: the table of numbers ('.._ren') and one theorem, a field a fact of the dump's own or the kernel's comparison; each contract: ONE APPLICATION.
-/
namespace Go.Proofs
open Go.Shelf
def Tryd.lays189_ren : Go.Shelf.Ren := ⟨fun | 189 => 72 | 125 => 80 | 257 => 79 | 128 => 90 | 129 => 91 | 294 => 81 | 295 => 82 | 296 => 83 | 297 => 84 | 298 => 85 | 299 => 86 | 216 => 87 | 300 => 88 | 301 => 89 | 328 => 92 | 329 => 93 | 330 => 94 | 331 => 95 | 332 => 96 | 215 => 97 | 343 => 98 | n => n, fun | 28 => 22 | 3 => 3 | 46 => 73 | 0 => 0 | 51 => 93 | 53 => 95 | 4 => 4 | 183 => 108 | 182 => 107 | 131 => 87 | 5 => 5 | 9 => 9 | 218 => 113 | 222 => 117 | 228 => 119 | 229 => 120 | n => n, fun | n => n⟩
theorem Tryd.lays189 : Go.Proofs.Lays.n189 Tryd.prog Tryd.lays189_ren := {
  mixed := by kernel_rfl
  f125 := Tryd.func80.trans (congrArg some (by kernel_rfl))
  f128 := Tryd.func90.trans (congrArg some (by kernel_rfl))
  f129 := Tryd.func91.trans (congrArg some (by kernel_rfl))
  f189 := Tryd.func72.trans (congrArg some (by kernel_rfl))
  f215 := Tryd.func97.trans (congrArg some (by kernel_rfl))
  f216 := Tryd.func87.trans (congrArg some (by kernel_rfl))
  f257 := Tryd.func79.trans (congrArg some (by kernel_rfl))
  f294 := Tryd.func81.trans (congrArg some (by kernel_rfl))
  f295 := Tryd.func82.trans (congrArg some (by kernel_rfl))
  f296 := Tryd.func83.trans (congrArg some (by kernel_rfl))
  f297 := Tryd.func84.trans (congrArg some (by kernel_rfl))
  f298 := Tryd.func85.trans (congrArg some (by kernel_rfl))
  f299 := Tryd.func86.trans (congrArg some (by kernel_rfl))
  f300 := Tryd.func88.trans (congrArg some (by kernel_rfl))
  f301 := Tryd.func89.trans (congrArg some (by kernel_rfl))
  f328 := Tryd.func92.trans (congrArg some (by kernel_rfl))
  f329 := Tryd.func93.trans (congrArg some (by kernel_rfl))
  f330 := Tryd.func94.trans (congrArg some (by kernel_rfl))
  f331 := Tryd.func95.trans (congrArg some (by kernel_rfl))
  f332 := Tryd.func96.trans (congrArg some (by kernel_rfl))
  f343 := Tryd.func98.trans (congrArg some (by kernel_rfl))
  t0 := Tryd.underlying0
  a0 := Tryd.isAgg0
  z0 := Tryd.sizeOf0
  v0 := Tryd.zeroValue0
  t3 := Tryd.underlying3
  a3 := Tryd.isAgg3
  z3 := Tryd.sizeOf3
  v3 := Tryd.zeroValue3
  t4 := Tryd.underlying4
  a4 := Tryd.isAgg4
  z4 := Tryd.sizeOf4
  v4 := Tryd.zeroValue4
  t5 := Tryd.underlying5
  a5 := Tryd.isAgg5
  z5 := Tryd.sizeOf5
  v5 := Tryd.zeroValue5
  t9 := Tryd.underlying9
  a9 := Tryd.isAgg9
  z9 := Tryd.sizeOf9
  v9 := Tryd.zeroValue9
  t28 := Tryd.underlying22
  a28 := Tryd.isAgg22
  z28 := Tryd.sizeOf22
  v28 := Tryd.zeroValue22
  t46 := Tryd.underlying73
  a46 := Tryd.isAgg73
  z46 := Tryd.sizeOf73
  v46 := Tryd.zeroValue73
  t51 := Tryd.underlying93
  a51 := Tryd.isAgg93
  z51 := Tryd.sizeOf93
  v51 := Tryd.zeroValue93
  t53 := Tryd.underlying95
  a53 := Tryd.isAgg95
  z53 := Tryd.sizeOf95
  v53 := Tryd.zeroValue95
  t131 := Tryd.underlying87
  a131 := Tryd.isAgg87
  z131 := Tryd.sizeOf87
  v131 := Tryd.zeroValue87
  t182 := Tryd.underlying107
  a182 := Tryd.isAgg107
  z182 := Tryd.sizeOf107
  v182 := Tryd.zeroValue107
  t183 := Tryd.underlying108
  a183 := Tryd.isAgg108
  z183 := Tryd.sizeOf108
  v183 := Tryd.zeroValue108
  t218 := Tryd.underlying113
  a218 := Tryd.isAgg113
  z218 := Tryd.sizeOf113
  v218 := Tryd.zeroValue113
  t222 := Tryd.underlying117
  a222 := Tryd.isAgg117
  z222 := Tryd.sizeOf117
  v222 := Tryd.zeroValue117
  t228 := Tryd.underlying119
  a228 := Tryd.isAgg119
  z228 := Tryd.sizeOf119
  v228 := Tryd.zeroValue119
  t229 := Tryd.underlying120
  a229 := Tryd.isAgg120
  z229 := Tryd.sizeOf120
  v229 := Tryd.zeroValue120 }
open Go.Sort Go.RowKit in
theorem Tryd.slices_Sort_int (blk off cap : Nat) (zs : List Int) (w : World) (hH : Holds (Value.int .i64) w blk off zs.toArray) (hblk : blk < w.heap.size) (hsz : zs.length < 4611686018427387904) :
    Calls Tryd.prog 72 #[.slice (some ⟨blk, off, none⟩) zs.length cap] w fun e w' =>
      e = .returned (.tuple #[]) ∧ ∃ n os, w' = grow (putRow (Value.int .i64) (Sort.ahead w n) blk off (zs.mergeSort fun x y => decide (x ≤ y)).toArray) os := Any.slices_Sort_int Tryd.lays189 blk off cap zs w hH hblk hsz
open Go.RowKit Go.Sort in
theorem Tryd.slices_Sort_int_none (p : Option Addr) (cap : Nat) (w : World) :
    Calls Tryd.prog 72 #[.slice p 0 cap] w fun e w' => e = .returned (.tuple #[]) ∧ w' = w := Any.slices_Sort_int_none Tryd.lays189 p cap w
end Go.Proofs
/- Numbers, sorted: by the shelf's contract. -/
namespace Go.Proofs.YtfnalecnnmkgbaaDoor
open Go.Sl Go.Sort Go.RowKit
variable {S : Nat → Prop} {w0 : World} {η : Heap}
theorem sortC_fn {b cap : Nat} {cur : Array Value} {zs : List Int} (hcur : cur.toList.take zs.length = ints zs) (hl : zs.length < 4294967296) :
    Rt Tryd.prog 72 [.slice (some ⟨b, 0, none⟩) zs.length cap].toArray S w0 ([(b, .cells cur 3 (0, 0))] :: η)
      (fun _ η' => ∃ cur' : Array Value, η' = [(b, .cells cur' 3 (0, 0))] :: η ∧ cur'.size = cur.size ∧ cur'.toList.take zs.length = ints (zs.mergeSort fun x y => decide (x ≤ y))) := by
  intro w hh
  have hb : w.heap[b]? = some (.cells cur 3 (0, 0)) := hh.inMem (by simp)
  have hsz : zs.length ≤ cur.size := by
    have := congrArg List.length hcur
    simp [ints] at this; omega
  have hblk : b < w.heap.size := (Array.getElem?_eq_some_iff.1 hb).1
  have hH : Holds (Value.int .i64) w b 0 zs.toArray := by
    intro j hj
    have hj2 : j < zs.length := by simpa using hj
    have hget : cur[j]? = some (.int .i64 zs[j]) := by
      have h2 : (cur.toList.take zs.length)[j]? = some (.int .i64 zs[j]) := by rw [hcur]; simp [ints, hj2]
      rw [List.getElem?_take_of_lt hj2] at h2
      simpa using h2
    have hd : zs.toArray[j]! = zs[j] := by rw [getElem!_pos zs.toArray j hj]; simp
    rw [hd]
    constructor
    · simp only [World.cell?, hb, Nat.zero_add]; simpa using hget
    · simp [World.frozen?, hb]
  have hp := Go.Proofs.Tryd.slices_Sort_int b 0 cap zs w hH hblk (by omega)
  refine hp.mono ?_
  rintro e2 w' ⟨rfl, n, os, rfl⟩
  have hml : (zs.mergeSort fun x y => decide (x ≤ y)).length = zs.length := List.length_mergeSort zs
  generalize (zs.mergeSort fun x y => decide (x ≤ y)) = ys at hml ⊢
  have hW : Hp S w0 ([(b, .cells (putCells (Value.int .i64) 0 ys.toArray cur) 3 (0, 0))] :: η) (sortWorld (Value.int .i64) w b 0 n ys.toArray os) := by
    have hbl : (sortWorld (Value.int .i64) w b 0 n ys.toArray os).heap[b]? = some (.cells (putCells (Value.int .i64) 0 ys.toArray cur) 3 (0, 0)) := by
      unfold sortWorld grow putRow mapBlock Sort.ahead
      simp only
      rw [Array.getElem?_append_left (by simpa using hblk), Array.getElem?_modify, if_pos rfl, hb]
      rfl
    have hn := hh.once
    refine ⟨hh.os, hh.tape, hh.output, Nat.le_trans hh.drawn (by show w.drawn ≤ w.drawn + n; omega), ?_, fun k hk => ?_, fun p hp => ?_, by simpa using hn⟩
    · have := hh.size
      unfold sortWorld grow putRow mapBlock Sort.ahead
      simp; omega
    · obtain ⟨g1, g2⟩ := hh.same k hk
      refine ⟨g1, ?_⟩
      rw [sw_heap (Value.int .i64) w b n ys.toArray os (Nat.lt_of_lt_of_le g1 hh.size) (fun q => (hh.own (b, .cells cur 3 (0, 0)) (by simp)).2 (q ▸ hk)), g2]
    · simp only [List.flatten_cons, List.cons_append, List.nil_append, List.mem_cons] at hp
      rcases hp with rfl | hp
      · exact ⟨hbl, (hh.own (b, .cells cur 3 (0, 0)) (by simp)).2⟩
      · have hown := hh.own p (by simp only [List.flatten_cons, List.mem_append]; exact .inr hp)
        refine ⟨?_, hown.2⟩
        have hlt := (Array.getElem?_eq_some_iff.1 hown.1).1
        have hne : p.1 ≠ b := fun q => by
          simp only [List.flatten_cons, List.map_append, List.map_cons, List.map_nil] at hn
          rw [List.nodup_append] at hn
          exact hn.2.2 b (by simp) b (q ▸ List.mem_map_of_mem (f := (·.1)) hp) rfl
        rw [sw_heap (Value.int .i64) w b n ys.toArray os hlt hne]; exact hown.1
  refine ⟨_, _, rfl, hW, putCells (Value.int .i64) 0 ys.toArray cur, rfl, by simp [putCells], ?_⟩
  apply List.ext_getElem?
  intro i
  by_cases hi : i < zs.length
  · rw [List.getElem?_take_of_lt hi, List.getElem?_map]
    have h3 : ys[i]? = some (ys[i]'(by omega)) := by simp [hml, hi]
    rw [h3]
    simp only [putCells, Array.getElem?_toList, Array.getElem?_mapIdx, Option.map_some]
    rw [Array.getElem?_eq_getElem (by omega)]
    simp [hml, hi]
  · rw [List.getElem?_eq_none (by simp; omega), List.getElem?_eq_none (by simp; omega)]
theorem mergeSort_up {l : List Int} (h : l.Nodup) : (l.mergeSort fun x y => decide (x ≤ y)) = risingS l := by
  refine up_ext ?_ (rising_up h) fun x => ?_
  · have h1 := List.pairwise_mergeSort (le := fun x y : Int => decide (x ≤ y)) (fun a b c h1 h2 => by simp only [decide_eq_true_eq] at *; omega) (fun a b => by simp only [Bool.or_eq_true, decide_eq_true_eq]; omega) l
    have h2 : (l.mergeSort fun x y => decide (x ≤ y)).Nodup := (List.mergeSort_perm l _).nodup_iff.2 h
    refine (h1.and h2).imp ?_
    rintro a b ⟨h3, h4⟩
    have := of_decide_eq_true h3; omega
  · rw [List.mem_mergeSort, mem_rising]
theorem sort_fn {a : Option Addr} {cap : Nat} {zs : List Int} {og : Seg} (ho : OSl 3 1 (.slice a zs.length cap) zs.length (ints zs) og) (hn : zs.Nodup) (hl : zs.length < 4294967296) :
    Rt Tryd.prog 72 [.slice a zs.length cap].toArray S w0 (og :: η) (fun _ η' => ∃ og', OSl 3 1 (.slice a zs.length cap) zs.length (ints (risingS zs)) og' ∧ η' = og' :: η) := by
  rcases ho.2 with ⟨hv, h0, hsg⟩ | ⟨g, cap', cur, hv, hsg, hnc, hcs, ht⟩
  · intro w hh
    have e0 : zs = [] := List.eq_nil_of_length_eq_zero h0
    subst e0
    refine (Go.Proofs.Tryd.slices_Sort_int_none a cap w).mono ?_
    rintro e2 w' ⟨rfl, rfl⟩
    exact ⟨_, _, rfl, hh, og, ho, rfl⟩
  · cases hv
    subst hsg
    rw [Nat.mul_one] at ht
    refine (sortC_fn ht hl).mono fun v η' ⟨cur', h1, h2, h3⟩ => ⟨[(g, .cells cur' 3 (0, 0))], ?_, h1⟩
    rw [mergeSort_up hn] at h3
    exact ⟨by rw [Nat.mul_one]; simp [risingS_len], .inr ⟨g, cap, cur', rfl, rfl, hnc, by rw [h2, hcs], by rw [Nat.mul_one]; exact h3⟩⟩
end Go.Proofs.YtfnalecnnmkgbaaDoor
/- Searches, sorted. -/
namespace Go.Proofs.YtfnalecnnmkgbaaDoor
open Go.Sl
variable {S : Nat → Prop} {w0 : World} {η : Heap}
def valE (zs : List Int) : List (List Value) := zs.map fun z => [Value.int .i64 z]
theorem valE_at {zs : List Int} {k : Nat} (h : k < zs.length) : (valE zs)[k]? = some [Value.int .i64 zs[k]] := by simp [valE, h]
theorem valE_len (zs : List Int) : (valE zs).length = zs.length := by simp [valE]
def ValC (a : Option Addr) (n c b1 : Nat) (η : Heap) : Prop := [(b1, Obj.cells #[.slice a n c] 22 (0, 0))] ∈ η
set_option maxHeartbeats 2000000 in
theorem values_iter {a : Option Addr} {c b1 : Nat} {zs : List Int} (hx : Row S w0 [] a (ints zs)) (hl : zs.length < 2 ^ 63) :
  Iter Tryd.prog 73 [] [ptr b1] (valE zs) S w0 (ValC a zs.length c b1) := by
 intro yl J X η hC hY h0
 have hF := open_wide
 refine Rt.of (fn := Tryd.f73) Tryd.func73 rfl rfl ?_
 refine T.seq ?_
 refine T.region ?_
 refine TL.load hF rfl (own_mem (hC _ _ h0) rfl) rfl ?_
 refine TL.len hF rfl rfl ?_
 refine TL.move hF rfl rfl ?_
 refine TL.nil ?_
 refine TQ.then_n ?_
 refine T.block ?_
 refine T.loop (ι := Nat × Heap) (fun i => i.1 ≤ zs.length ∧ J i.1 i.2) (fun i => [(0, .func (.yield yl) #[] #[]), (5, .slice a zs.length c), (6, .int .i64 (zs.length : Int)), (7, .int .i64 (i.1 : Int))]) (fun i => i.2) (fun i => zs.length - i.1) (0, η) ⟨Nat.zero_le _, h0⟩ ⟨rfl, rfl, rfl, rfl, trivial⟩ rfl ?_
 rintro ⟨k, η1⟩ ⟨hk1, hJ⟩
 dsimp only at hk1 hJ
 refine T.seq ?_
 refine T.region ?_
 refine TL.bin hF rfl rfl rfl rfl ?_
 refine TL.nil ?_
 refine TQ.then_n ?_
 refine T.seq ?_
 first | refine T.cond_d rfl (fun ht8 => ?_) (fun ht8 => ?_) | refine T.cond _ rfl (fun ht8 => ?_) (fun ht8 => ?_)
 ·refine T.skip ?_
  refine TQ.then_n ?_
  refine T.seq ?_
  refine T.block ?_
  refine T.seq ?_
  refine T.region ?_
  refine TL.indexAddr hF rfl rfl ((hx.ro (η' := η1)).adi (i := k) (by simp; omega)) (by omega) (by omega) rfl ?_
  refine TL.load hF rfl (hx.ro.int (i := k) (by omega)) rfl ?_
  refine TL.assign hF rfl rfl ?_
  refine TL.nil ?_
  refine TQ.then_n ?_
  refine T.seq ?_
  refine T.region ?_
  refine TL.move hF rfl rfl ?_
  refine TL.move hF rfl rfl ?_
  have hkl : k < zs.length := by omega
  refine TL.yield rfl rfl rfl (hY _ _ _ (valE_at hkl) hJ) rfl (fun yb η2 hyb => ?_)
  refine TL.not hF rfl rfl ?_
  refine TL.nil ?_
  refine TQ.then_n ?_
  refine T.cond _ rfl (fun ht14 => ?_) (fun ht14 => ?_)
  ·refine T.ret ?_
   refine TQ.block_r ?_
   refine TQ.then_r ?_
   refine TQ.then_r ?_
   refine TQ.block_r ?_
   refine TQ.rets [] _ rfl rfl rfl ?_
   have hyf : yb = false := by simpa using ht14
   subst hyf
   exact .inr hyb
  ·refine T.skip ?_
   refine TQ.block_n ?_
   refine TQ.then_n ?_
   refine T.region ?_
   refine TL.add hF rfl rfl (by omega) (by omega) rfl ?_
   refine TL.move hF rfl rfl ?_
   refine TL.nil ?_
   have hyt : yb = true := by simpa using ht14
   subst hyt
   exact TQ.round (k + 1, η2) ⟨by dsimp only; omega, hyb⟩ (by dsimp only; omega) ⟨rfl, rfl, rfl, rfl, trivial⟩ rfl
 ·refine T.exit ?_
  refine TQ.then_x ?_
  refine TQ.then_x ?_
  refine TQ.block_x ?_
  refine TQ.norm ?_
  refine TQ.rets [] _ rfl rfl rfl ?_
  left; rw [valE_len, show zs.length = k by omega]; exact hJ
set_option maxHeartbeats 2000000 in
theorem Values_fn {a : Option Addr} {n c : Nat} :
  Rt Tryd.prog 60 [.slice a n c].toArray S w0 η (fun v η' => ∃ b1, v = .func (.func 73) #[] #[ptr b1] ∧ η' = [(b1, Obj.cells #[.slice a n c] 22 (0, 0))] :: η) := by
 have hF := open_wide
 refine Rt.of (fn := Tryd.f60) Tryd.func60 rfl rfl ?_
 refine T.seq ?_
 refine T.region ?_
 refine TL.box hF rfl rfl (fun b1 => ?_)
 refine TL.assign hF rfl rfl ?_
 refine TL.nil ?_
 refine TQ.then_n ?_
 refine T.seq ?_
 refine T.region ?_
 refine TL.makeFunc hF rfl rfl rfl ?_
 refine TL.assign hF rfl rfl ?_
 refine TL.nil ?_
 refine TQ.then_n ?_
 refine T.ret ?_
 refine TQ.rets [2] _ rfl rfl rfl ?_
 exact ⟨b1, rfl, rfl⟩
set_option maxHeartbeats 2000000 in
theorem AppendSeq_fn {a : Option Addr} {zs : List Int} {c b1 : Nat} (hx : Row S w0 [] a (ints zs)) (hl : zs.length < 4294967296) :
  Rt Tryd.prog 78 [.slice none 0 0, .func (.func 73) #[] #[ptr b1]].toArray S w0 ([(b1, Obj.cells #[.slice a zs.length c] 22 (0, 0))] :: η) (fun v η' => ∃ oa oc og, v = .slice oa zs.length oc ∧ OSl 3 1 (.slice oa zs.length oc) zs.length (ints zs) og ∧ η' = og :: [(b1, Obj.cells #[.slice a zs.length c] 22 (0, 0))] :: η) := by
 have hF := open_wide
 refine Rt.ofL (fn := Tryd.f78) Tryd.func78 rfl rfl ?_
 refine T.seq ?_
 refine T.region ?_
 refine TL.box hF rfl rfl (fun b2 => ?_)
 refine TL.assign hF rfl rfl ?_
 refine TL.nil ?_
 refine TQ.then_n ?_
 refine T.seq ?_
 refine T.seq ?_
 refine T.region ?_
 refine TL.move hF rfl rfl ?_
 refine TL.nil ?_
 refine TQ.then_n ?_
 refine T.block ?_
 refine T.hnil ?_
 refine T.pick [1, 0] [[], _] rfl rfl rfl ?_
 refine T.rangeFunc (fst := []) (cap := [ptr b1]) rfl (values_iter (c := c) (b1 := b1) hx (by omega)) (by
   intro e he; obtain ⟨z, _, rfl⟩ := List.mem_map.1 he; rfl) (by simp) (fun i η1 => ∃ oa oc og, η1 = [(b2, Obj.cells #[.slice oa i oc] 22 (0, 0))] :: og :: [(b1, Obj.cells #[.slice a zs.length c] 22 (0, 0))] :: η ∧ i ≤ zs.length ∧ OSl 3 1 (.slice oa i oc) i (ints (zs.take i)) og) (fun _ _ => False) ⟨none, 0, [], rfl, Nat.zero_le _, OSl.nil _ _⟩ ?_ ?_ ?_ ?_
 ·rintro i _ tl ⟨oa, oc, og, rfl, _⟩
  exact by simp [ValC]
 ·rintro l tl tl' i e _ hie ⟨oa, oc, og, rfl, hi, ho⟩
  have hF := open_round l
  have hil : i < zs.length := by have := (List.getElem?_eq_some_iff.1 hie).1; rwa [valE_len] at this
  rw [valE_at hil] at hie
  cases hie
  refine T.region ?_
  refine TL.assign hF rfl rfl ?_
  refine TL.nil ?_
  refine TQ.swapT _ rfl ?_
  refine T.block ?_
  refine T.region ?_
  refine TL.load hF rfl (own_mem (e := 22) (fz := (0, 0)) (cs := #[.slice oa i oc]) (by simp) rfl) rfl ?_
  refine TL.move hF rfl rfl ?_
  refine TL.buildSlice hF rfl (cs := #[.int .i64 zs[i]]) (e := 3) (fun w => by kernel_rfl) rfl (fun b10 => ?_)
  refine TL.append hF 2 rfl rfl rfl ho (row_own (cs := [.int .i64 zs[i]]) (e := 3) (by simp)).src rfl rfl (by simp [Value.oneCell']) (by omega) (by omega) rfl (fun pa pc pg ph => ?_)
  rw [← ints_app] at ph
  refine TL.storeI hF 1 rfl rfl rfl rfl (by simp) ?_
  refine TL.nil ?_
  refine TQ.block_n ?_
  have e1 : zs.take (i + 1) = zs.take i ++ [zs[i]] := List.take_succ_eq_append_getElem hil
  rw [← e1] at ph
  refine TQ.pop ?_
  refine TQ.rq_n ([(b2, Obj.cells #[.slice pa (i + 1) pc] 22 (0, 0))] :: pg :: [(b1, Obj.cells #[.slice a zs.length c] 22 (0, 0))] :: η) rfl ⟨pa, pc, pg, rfl, by omega, ph⟩
 ·rintro mk _ ⟨oa, oc, og, rfl, hi, ho⟩
  rw [valE_len] at ho
  rw [List.take_of_length_le (Nat.le_refl _)] at ho
  refine TQ.block_n ?_
  refine TQ.then_n ?_
  refine T.seq ?_
  refine T.region ?_
  refine TL.load hF rfl (own_mem (e := 22) (fz := (0, 0)) (cs := #[.slice oa (valE zs).length oc]) (by simp) rfl) rfl ?_
  refine TL.assign hF rfl rfl ?_
  refine TL.nil ?_
  refine TQ.then_n ?_
  refine T.ret ?_
  refine TQ.mark (i := 0) (.inl rfl) rfl ?_
  refine TQ.hsub (og :: [(b1, Obj.cells #[.slice a zs.length c] 22 (0, 0))] :: η) (List.Sublist.cons _ (List.sublist_cons_self _ _)) ?_
  refine TQ.retL0 [4] [_] rfl rfl rfl ⟨oa, oc, og, by rw [valE_len]; rfl, ho, rfl⟩
 ·rintro _ _ _ h; exact h.elim
end Go.Proofs.YtfnalecnnmkgbaaDoor
/- Searches that are valid, in order; how many chains are the fewest. -/
namespace Go.Proofs.YtfnalecnnmkgbaaDoor
open Go.Sl
variable {S : Nat → Prop} {w0 : World} {η : Heap}
set_option maxHeartbeats 2000000 in
theorem Collect_fn {a : Option Addr} {zs : List Int} {c b1 : Nat} (hx : Row S w0 [] a (ints zs)) (hl : zs.length < 4294967296) :
  Rt Tryd.prog 71 [.func (.func 73) #[] #[ptr b1]].toArray S w0 ([(b1, Obj.cells #[.slice a zs.length c] 22 (0, 0))] :: η) (fun v η' => ∃ oa oc og, v = .slice oa zs.length oc ∧ OSl 3 1 (.slice oa zs.length oc) zs.length (ints zs) og ∧ η' = og :: [(b1, Obj.cells #[.slice a zs.length c] 22 (0, 0))] :: η) := by
 have hF := open_wide
 refine Rt.of (fn := Tryd.f71) Tryd.func71 rfl rfl ?_
 refine T.seq ?_
 refine T.region ?_
 refine TL.assign hF rfl rfl ?_
 refine TL.nil ?_
 refine TQ.then_n ?_
 refine T.seq ?_
 refine T.region ?_
 refine TL.move hF rfl rfl ?_
 refine TL.call hF (AppendSeq_fn (c := c) (b1 := b1) hx hl) rfl rfl ?_
 rintro _ _ ⟨oa, oc, og, rfl, ho, rfl⟩
 refine TL.assign hF rfl rfl ?_
 refine TL.nil ?_
 refine TQ.then_n ?_
 refine T.ret ?_
 refine TQ.rets [2] _ rfl rfl rfl ?_
 exact ⟨oa, oc, og, rfl, ho, rfl⟩
set_option maxHeartbeats 2000000 in
theorem Sorted_fn {a : Option Addr} {zs : List Int} {c b1 : Nat} (hx : Row S w0 [] a (ints zs)) (hl : zs.length < 4294967296) (hn : zs.Nodup) :
  Rt Tryd.prog 59 [.func (.func 73) #[] #[ptr b1]].toArray S w0 ([(b1, Obj.cells #[.slice a zs.length c] 22 (0, 0))] :: η) (fun v η' => ∃ oa oc og, v = .slice oa zs.length oc ∧ OSl 3 1 (.slice oa zs.length oc) zs.length (ints (risingS zs)) og ∧ η' = og :: [(b1, Obj.cells #[.slice a zs.length c] 22 (0, 0))] :: η) := by
 have hF := open_wide
 refine Rt.of (fn := Tryd.f59) Tryd.func59 rfl rfl ?_
 refine T.seq ?_
 refine T.region ?_
 refine TL.assign hF rfl rfl ?_
 refine TL.nil ?_
 refine TQ.then_n ?_
 refine T.seq ?_
 refine T.region ?_
 refine TL.move hF rfl rfl ?_
 refine TL.call hF (Collect_fn (c := c) (b1 := b1) hx hl) rfl rfl ?_
 rintro _ _ ⟨oa, oc, og, rfl, ho, rfl⟩
 refine TL.assign hF rfl rfl ?_
 refine TL.nil ?_
 refine TQ.then_n ?_
 refine T.seq ?_
 refine T.region ?_
 refine TL.move hF rfl rfl ?_
 refine TL.call hF (sort_fn ho hn hl) rfl rfl ?_
 rintro _ _ ⟨sg, hs, rfl⟩
 refine TL.nil ?_
 refine TQ.then_n ?_
 refine T.seq ?_
 refine T.region ?_
 refine TL.move hF rfl rfl ?_
 refine TL.assign hF rfl rfl ?_
 refine TL.nil ?_
 refine TQ.then_n ?_
 refine T.ret ?_
 refine TQ.rets [2] _ rfl rfl rfl ?_
 exact ⟨oa, oc, sg, rfl, hs, rfl⟩
theorem Contains_head {a : Option Addr} {l : List Int} {c k : Nat} (n : Int) (hx : Row S w0 [] a (ints l)) (hk : k ≤ l.length) (hc : l.length ≤ c) (hl : l.length < 2 ^ 63) : Rt Tryd.prog 58 [.slice (if c = 0 then a else a.map (·.add (0 * 1))) (k - 0) (c - 0), .int .i64 n].toArray S w0 η (fun v η' => v = .bool (decide (n ∈ l.take k)) ∧ η' = η) := by
 have h := Contains_fn (η := η) (c := c - 0) n (row_head hx hk hc).ro (by rw [List.length_take]; omega)
 rw [List.length_take, Nat.min_eq_left hk] at h
 exact h
set_option maxHeartbeats 2000000 in
theorem opened_fn {a : Option Addr} {l : List Int} {c : Nat} (cols : Int) (hx : Row S w0 [] a (ints l)) (hl : l.length < 2 ^ 63) (hc : l.length ≤ c) :
  RtE Tryd.prog 34 [.int .i64 cols, .slice a l.length c].toArray S w0 η (fun v η' => ∃ oa oc og b1, v = .slice oa l.length oc ∧ OSl 3 1 (.slice oa l.length oc) l.length (ints (risingS l)) og ∧ checkE cols l = 0 ∧ η' = og :: [(b1, Obj.cells #[.slice a l.length c] 22 (0, 0))] :: η) (fun ch η' => checkE cols l ≠ 0 ∧ ch = stopV (checkE cols l) ∧ η' = η) := by
 have hF := open_wide
 refine RtE.of (fn := Tryd.f34) Tryd.func34 rfl rfl ?_
 refine T.seq ?_
 refine T.region ?_
 refine TL.assign hF rfl rfl ?_
 refine TL.nil ?_
 refine TQ.then_n ?_
 refine T.seq ?_
 refine T.region ?_
 refine TL.move hF rfl rfl ?_
 refine TL.bin hF rfl rfl rfl rfl ?_
 refine TL.move hF rfl rfl ?_
 refine TL.gd (t := 9) rfl (fun g1_9 => ?_) (fun g1_9 => ?_)
 ·refine TL.on rfl rfl rfl (decide_eq_true g1_9) ?_
  refine TL.move hF rfl rfl ?_
  refine TL.on rfl rfl rfl (decide_eq_true g1_9) ?_
  refine TL.bin hF rfl rfl rfl rfl ?_
  refine TL.pickT hF rfl (decide_eq_true g1_9) rfl rfl ?_
  refine TL.callM hF (must_fn _ 1) rfl rfl (fun hA _ => ?_) (fun hA => ?_)
  ·skip
   refine TL.nil ?_
   refine TQ.then_n ?_
   refine T.seq ?_
   refine T.region ?_
   refine TL.move hF rfl rfl ?_
   refine TL.len hF rfl rfl ?_
   refine TL.bin hF rfl rfl rfl rfl ?_
   refine TL.callM hF (must_fn _ 3) rfl rfl (fun hB _ => ?_) (fun hB => ?_)
   ·skip
    refine TL.nil ?_
    refine TQ.then_n ?_
    refine T.seq ?_
    refine T.seq ?_
    refine T.region ?_
    refine TL.move hF rfl rfl ?_
    refine TL.len hF rfl rfl ?_
    refine TL.move hF rfl rfl ?_
    refine TL.nil ?_
    refine TQ.then_n ?_
    refine T.block ?_
    simp only [decide_eq_true_eq] at hA hB
    obtain ⟨m, rfl⟩ : ∃ m : Nat, cols = (m : Int) := ⟨cols.toNat, by omega⟩
    have hm10 : m ≤ 10 := by omega
    have hp := two_pow hm10
    have hl24 : l.length ≤ 24 := by omega
    refine T.loop (ι := Nat) (fun i => i ≤ l.length ∧ chkL m [] l = chkL m (l.take i) (l.drop i)) (fun i => [(0, .int .i64 (m : Int)), (1, .slice a l.length c), (4, .slice none 0 0), (18, .slice a l.length c), (19, .int .i64 (l.length : Int)), (20, .int .i64 (i : Int))]) (fun _ => η) (fun i => l.length - i) 0 ⟨Nat.zero_le _, rfl⟩ ⟨rfl, rfl, rfl, rfl, rfl, rfl, trivial⟩ rfl ?_
    rintro i ⟨hi, hinv⟩
    refine T.seq ?_
    refine T.region ?_
    refine TL.bin hF rfl rfl rfl rfl ?_
    refine TL.nil ?_
    refine TQ.then_n ?_
    refine T.seq ?_
    first | refine T.cond_d rfl (fun ht21 => ?_) (fun ht21 => ?_) | refine T.cond _ rfl (fun ht21 => ?_) (fun ht21 => ?_)
    ·refine T.skip ?_
     refine TQ.then_n ?_
     refine T.seq ?_
     refine T.block ?_
     refine T.seq ?_
     refine T.region ?_
     refine TL.move hF rfl rfl ?_
     have hil : i < l.length := by have h : (i : Int) < (l.length : Int) := ht21; omega
     have hdr : l.drop i = l[i] :: l.drop (i + 1) := drop_step hil
     refine TL.indexAddr hF rfl rfl ((hx.ro (η' := η)).adi (i := i) (by simp; omega)) (by omega) (by omega) rfl ?_
     refine TL.load hF rfl (hx.ro.int (i := i) hil) rfl ?_
     refine TL.assign hF rfl rfl ?_
     refine TL.assign hF rfl rfl ?_
     refine TL.nil ?_
     refine TQ.then_n ?_
     refine T.seq ?_
     refine T.region ?_
     refine TL.move hF rfl rfl ?_
     refine TL.bin hF rfl rfl rfl rfl ?_
     refine TL.move hF rfl rfl ?_
     refine TL.gd (t := 27) rfl (fun g6_27 => ?_) (fun g6_27 => ?_)
     ·refine TL.on rfl rfl rfl (decide_eq_true g6_27) ?_
      refine TL.move hF rfl rfl ?_
      refine TL.on rfl rfl rfl (decide_eq_true g6_27) ?_
      refine TL.move hF rfl rfl ?_
      refine TL.on rfl rfl rfl (decide_eq_true g6_27) ?_
      refine TL.shlS hF (a := 1) (s := m) rfl rfl (by omega) (by omega) rfl ?_
      refine TL.on rfl rfl rfl (decide_eq_true g6_27) ?_
      refine TL.bin hF rfl rfl rfl rfl ?_
      refine TL.pickT hF rfl (decide_eq_true g6_27) rfl rfl ?_
      refine TL.callM hF (must_fn _ 2) rfl rfl (fun hC _ => ?_) (fun hC => ?_)
      ·skip
       refine TL.nil ?_
       refine TQ.then_n ?_
       refine T.region ?_
       refine TL.move hF rfl rfl ?_
       refine TL.move hF rfl rfl ?_
       refine TL.slice hF (i := 0) (j := i) rfl rfl rfl (by omega) (by omega) rfl ?_
       refine TL.move hF rfl rfl ?_
       refine TL.callV hF (Contains_head l[i] hx (by omega) hc (by omega)) rfl rfl ?_
       refine TL.not hF rfl rfl ?_
       refine TL.callM hF (must_fn _ 5) rfl rfl (fun hD _ => ?_) (fun hD => ?_)
       ·skip
        refine TL.nil ?_
        refine TQ.block_n ?_
        refine TQ.then_n ?_
        refine T.region ?_
        refine TL.add hF rfl rfl (by omega) (by omega) rfl ?_
        refine TL.move hF rfl rfl ?_
        refine TL.nil ?_
        simp only [decide_eq_true_eq, Bool.not_eq_true', decide_eq_false_iff_not] at hC hD
        refine TQ.round (i + 1) ⟨by omega, ?_⟩ (by omega) ⟨rfl, rfl, rfl, rfl, rfl, rfl, trivial⟩ rfl
        rw [hinv, hdr]
        conv => lhs; unfold chkL
        rw [if_pos ⟨by omega, by omega⟩, if_neg hD, List.take_succ_eq_append_getElem hil]
       ·skip
        refine TQ.block_p ?_
        refine TQ.then_p ?_
        refine TQ.then_p ?_
        refine TQ.block_p ?_
        refine TQ.then_p ?_
        simp only [decide_eq_true_eq, Bool.not_eq_false', decide_eq_true_eq] at hC hD
        have e : chkL m [] l = 5 := by rw [hinv, hdr]; unfold chkL; rw [if_pos ⟨by omega, by omega⟩, if_pos hD]
        have e2 : checkE (m : Int) l = 5 := by unfold checkE; rw [if_neg (by omega), if_neg (by omega), Int.toNat_natCast, e]
        exact TQ.panicE ⟨by rw [e2]; decide, by rw [e2], rfl⟩
      ·skip
       refine TQ.then_p ?_
       refine TQ.block_p ?_
       refine TQ.then_p ?_
       refine TQ.then_p ?_
       refine TQ.block_p ?_
       refine TQ.then_p ?_
       simp only [decide_eq_false_iff_not] at hC
       have e : chkL m [] l = 2 := by rw [hinv, hdr]; unfold chkL; rw [if_neg (by omega)]
       have e2 : checkE (m : Int) l = 2 := by unfold checkE; rw [if_neg (by omega), if_neg (by omega), Int.toNat_natCast, e]
       exact TQ.panicE ⟨by rw [e2]; decide, by rw [e2], rfl⟩
     ·refine TL.off hF rfl rfl rfl (decide_eq_false g6_27) rfl ?_
      refine TL.off hF rfl rfl rfl (decide_eq_false g6_27) rfl ?_
      refine TL.off hF rfl rfl rfl (decide_eq_false g6_27) rfl ?_
      refine TL.off hF rfl rfl rfl (decide_eq_false g6_27) rfl ?_
      refine TL.pickF hF rfl (decide_eq_false g6_27) rfl rfl ?_
      refine TL.callE hF (must_no 2) rfl rfl (fun _ _ h => h.elim) ?_
      rintro _ _ ⟨rfl, rfl⟩
      refine TQ.then_p ?_
      refine TQ.block_p ?_
      refine TQ.then_p ?_
      refine TQ.then_p ?_
      refine TQ.block_p ?_
      refine TQ.then_p ?_
      have e : chkL m [] l = 2 := by rw [hinv, hdr]; unfold chkL; rw [if_neg (by omega)]
      have e2 : checkE (m : Int) l = 2 := by unfold checkE; rw [if_neg (by omega), if_neg (by omega), Int.toNat_natCast, e]
      exact TQ.panicE ⟨by rw [e2]; decide, by rw [e2], rfl⟩
    ·refine T.exit ?_
     refine TQ.then_x ?_
     refine TQ.then_x ?_
     refine TQ.block_x ?_
     refine TQ.then_n ?_
     refine T.seq ?_
     refine T.region ?_
     refine TL.move hF rfl rfl ?_
     have hk : checkE (m : Int) l = 0 := by
      unfold checkE; rw [if_neg (by omega), if_neg (by omega), Int.toNat_natCast, hinv, List.drop_of_length_le (by omega)]; rfl
     obtain ⟨_, _, _, hnd, hsl⟩ := checkE_ok hk
     refine TL.call hF Values_fn rfl rfl ?_
     rintro _ _ ⟨b1, rfl, rfl⟩
     refine TL.call hF (Sorted_fn (c := c) (b1 := b1) hx (by omega) hnd) rfl rfl ?_
     rintro _ _ ⟨oa, oc, og, rfl, ho, rfl⟩
     refine TL.assign hF rfl rfl ?_
     refine TL.nil ?_
     refine TQ.then_n ?_
     refine T.ret ?_
     refine TQ.retsE [4] _ rfl rfl rfl ?_
     exact ⟨oa, oc, og, b1, rfl, ho, hk, rfl⟩
   ·skip
    refine TQ.then_p ?_
    simp only [decide_eq_true_eq, decide_eq_false_iff_not] at hA hB
    have e2 : checkE cols l = 3 := by unfold checkE; rw [if_neg (by omega), if_pos (by omega)]
    exact TQ.panicE ⟨by rw [e2]; decide, by rw [e2], rfl⟩
  ·skip
   refine TQ.then_p ?_
   simp only [decide_eq_false_iff_not] at hA
   have e2 : checkE cols l = 1 := by unfold checkE; rw [if_pos (by omega)]
   exact TQ.panicE ⟨by rw [e2]; decide, by rw [e2], rfl⟩
 ·refine TL.off hF rfl rfl rfl (decide_eq_false g1_9) rfl ?_
  refine TL.off hF rfl rfl rfl (decide_eq_false g1_9) rfl ?_
  refine TL.pickF hF rfl (decide_eq_false g1_9) rfl rfl ?_
  refine TL.callE hF (must_no 1) rfl rfl (fun _ _ h => h.elim) ?_
  rintro _ _ ⟨rfl, rfl⟩
  refine TQ.then_p ?_
  have e2 : checkE cols l = 1 := by unfold checkE; rw [if_pos (by omega)]
  exact TQ.panicE ⟨by rw [e2]; decide, by rw [e2], rfl⟩
end Go.Proofs.YtfnalecnnmkgbaaDoor
/- How many chains are the fewest: as many as searches that are apart. -/
namespace Go.Proofs.YtfnalecnnmkgbaaDoor
open Go.Sl
/-- Searches of which none is a part of another one. -/
def Anti (W : List Int) : Prop := W.Pairwise fun a b => apartI a b = true
theorem apartI_iff {a b : Int} : apartI a b = true ↔ underI a b = false ∧ underI b a = false := by unfold apartI; simp
theorem apartI_symm {a b : Int} (h : apartI a b = true) : apartI b a = true := by rw [apartI_iff] at h ⊢; exact ⟨h.2, h.1⟩
theorem underI_self (a : Int) : underI a a = true := by unfold underI; simp
theorem apartI_ne {a b : Int} (h : apartI a b = true) : a ≠ b := fun e => by
 subst e; rw [apartI_iff, underI_self] at h; cases h.1
theorem Anti.nodup {W : List Int} (h : Anti W) : W.Nodup := h.imp apartI_ne
theorem Anti.get {W : List Int} (h : Anti W) {a b : Int} (ha : a ∈ W) (hb : b ∈ W) (hab : a ≠ b) : apartI a b = true := by
 obtain ⟨i, hi, rfl⟩ := List.getElem_of_mem ha
 obtain ⟨j, hj, rfl⟩ := List.getElem_of_mem hb
 rcases Nat.lt_trichotomy i j with q | q | q
 ·exact List.pairwise_iff_getElem.1 h i j hi hj q
 ·subst q; exact (hab rfl).elim
 ·exact apartI_symm (List.pairwise_iff_getElem.1 h j i hj hi q)
theorem anti_of {W : List Int} (hn : W.Nodup) (h : ∀ a ∈ W, ∀ b ∈ W, a ≠ b → apartI a b = true) : Anti W :=
 List.Pairwise.imp_of_mem (fun ha hb hab => h _ ha _ hb hab) hn
theorem partI_apart {a b : Int} (h1 : partI a b = false) (h2 : partI b a = false) (hn : a ≠ b) : apartI a b = true := by
 unfold partI at h1 h2
 rw [decide_eq_true hn, Bool.and_true] at h1
 rw [decide_eq_true (Ne.symm hn), Bool.and_true] at h2
 rw [apartI_iff]; exact ⟨h1, h2⟩
theorem apart_part {a b : Int} (h : apartI a b = true) : partI a b = false := by
 rw [apartI_iff] at h; unfold partI; rw [h.1]; rfl
theorem underI_trans {a b c : Int} (h1 : underI a b = true) (h2 : underI b c = true) : underI a c = true := by
 unfold underI at *
 simp only [decide_eq_true_eq] at *
 rw [← h1, Nat.and_assoc, h2]
theorem underI_anti {a b : Int} (ha : 0 ≤ a) (hb : 0 ≤ b) (h1 : underI a b = true) (h2 : underI b a = true) : a = b := by
 unfold underI at *
 simp only [decide_eq_true_eq] at *
 rw [Nat.and_comm] at h2; omega
theorem partI_trans {a b c : Int} (ha : 0 ≤ a) (hb : 0 ≤ b) (h1 : partI a b = true) (h2 : partI b c = true) : partI a c = true := by
 unfold partI at *
 rw [Bool.and_eq_true, decide_eq_true_eq] at *
 refine ⟨underI_trans h1.1 h2.1, fun e => ?_⟩
 subst e
 exact h1.2 (underI_anti ha hb h1.1 h2.1)
theorem partI_irr (a : Int) : partI a a = false := by unfold partI; simp
theorem cnt_true {n : Nat} : cnt n (fun _ => true) = n := by unfold cnt; rw [List.countP_eq_length_filter, List.filter_eq_self.2 (fun _ _ => rfl), List.length_range]
theorem getD_get {l : List Int} {i : Nat} (h : i < l.length) : l.getD i 0 = l[i] := by rw [List.getD_eq_getElem?_getD, List.getElem?_eq_getElem h]; rfl
theorem idx_lt {l : List Int} {x : Int} (h : x ∈ l) : l.idxOf x < l.length := List.idxOf_lt_length_of_mem h
theorem idx_get {l : List Int} {x : Int} (h : x ∈ l) : l[l.idxOf x]'(idx_lt h) = x := List.getElem_idxOf (idx_lt h)
theorem cnt_sub {W l : List Int} (hn : W.Nodup) (h : ∀ x ∈ W, x ∈ l) : W.length ≤ cnt l.length fun i => decide (l.getD i 0 ∈ W) := by
 refine Nat.le_trans (Nat.le_of_eq (cnt_true (n := W.length)).symm) ?_
 refine cnt_inj (fun i => l.idxOf (W.getD i 0)) (fun i hi _ => ?_) (fun i j hi hj _ _ e => ?_)
 ·rw [getD_get hi]
  have hm := h _ (List.getElem_mem hi)
  exact ⟨idx_lt hm, decide_eq_true (by rw [getD_get (idx_lt hm), idx_get hm]; exact List.getElem_mem hi)⟩
 ·rw [getD_get hi, getD_get hj] at e
  have h1 := h _ (List.getElem_mem hi)
  have h2 := h _ (List.getElem_mem hj)
  have h3 : W[i] = W[j] := by
   have q1 := getD_get (idx_lt h1)
   have q2 := getD_get (idx_lt h2)
   rw [idx_get h1] at q1
   rw [idx_get h2] at q2
   rw [← q1, ← q2, e]
  rcases Nat.lt_trichotomy i j with q | q | q
  ·exact (List.pairwise_iff_getElem.1 hn i j hi hj q h3).elim
  ·exact q
  ·exact (List.pairwise_iff_getElem.1 hn j i hj hi q h3.symm).elim
/-- Searches that are apart are not more than chains. -/
theorem anti_le {l W : List Int} (hs : Sets l) (hW : Anti W) (h : ∀ x ∈ W, x ∈ l) : (W.length : Int) ≤ fewN l := by
 have h1 := cnt_sub hW.nodup h
 have h2 := apart_most (E := EPt l l) (n := l.length) (W := fun i => decide (l.getD i 0 ∈ W)) (fun i j k hi hj hk a b => by
  unfold EPt at *
  refine partI_trans ?_ ?_ a b
  ·rw [getD_get hi]; exact (hs _ (List.getElem_mem hi)).1
  ·rw [getD_get hj]; exact (hs _ (List.getElem_mem hj)).1) (fun i j hi hj a b => by
  unfold EPt
  have a := of_decide_eq_true a
  have b := of_decide_eq_true b
  by_cases e : l.getD i 0 = l.getD j 0
  ·rw [e]; exact partI_irr _
  ·exact apart_part (hW.get a b e))
 unfold fewN matchN; omega
/-- There are as many. -/
theorem anti_ex {l : List Int} (hn : l.Nodup) : ∃ W, Anti W ∧ (∀ x ∈ W, x ∈ l) ∧ fewN l ≤ (W.length : Int) := by
 obtain ⟨p, hp, ha⟩ := apart_all (E := EPt l l) (n := l.length) (fun i => partI_irr _)
 have hm : ∀ x ∈ ((List.range l.length).filter p).map fun i => l.getD i 0, ∃ i, i < l.length ∧ p i = true ∧ x = l.getD i 0 := fun x hx => by
  obtain ⟨i, hi, rfl⟩ := List.mem_map.1 hx
  have hi := List.mem_filter.1 hi
  exact ⟨i, List.mem_range.1 hi.1, hi.2, rfl⟩
 have hnd : (((List.range l.length).filter p).map fun i => l.getD i 0).Nodup := by
  refine List.pairwise_map.2 (List.Pairwise.imp_of_mem (fun {a b} ha hb hab e => ?_) (List.Pairwise.filter p List.pairwise_lt_range))
  have ha := List.mem_range.1 (List.mem_filter.1 ha).1
  have hb := List.mem_range.1 (List.mem_filter.1 hb).1
  rw [getD_get ha, getD_get hb] at e
  exact List.pairwise_iff_getElem.1 hn a b ha hb hab e
 refine ⟨((List.range l.length).filter p).map fun i => l.getD i 0, anti_of hnd (fun a ha2 b hb2 hab => ?_), fun x hx => ?_, ?_⟩
 ·obtain ⟨i, hi, hpi, rfl⟩ := hm a ha2
  obtain ⟨j, hj, hpj, rfl⟩ := hm b hb2
  exact partI_apart (ha i j hi hj hpi hpj) (ha j i hj hi hpj hpi) hab
 ·obtain ⟨i, hi, _, rfl⟩ := hm x hx
  rw [getD_get hi]; exact List.getElem_mem hi
 ·rw [List.length_map, cnt_len]; unfold fewN matchN; omega
/-- Of less searches there are not more chains. -/
theorem fewN_mono {l m : List Int} (hl : l.Nodup) (hs : Sets m) (h : ∀ x ∈ l, x ∈ m) : fewN l ≤ fewN m := by
 obtain ⟨W, h1, h2, h3⟩ := anti_ex hl
 have := anti_le hs h1 (fun x hx => h x (h2 x hx)); omega
theorem fewN_ext {l m : List Int} (hl : l.Nodup) (hm : m.Nodup) (hs : Sets l) (h : ∀ x, x ∈ l ↔ x ∈ m) : fewN l = fewN m := by
 have h1 := fewN_mono hl (m := m) (fun x hx => hs x ((h x).2 hx)) fun x hx => (h x).1 hx
 have h2 := fewN_mono hm hs fun x hx => (h x).2 hx
 omega
theorem fewN_rising {cols : Int} {l : List Int} (h : checkE cols l = 0) : fewN (risingS l) = fewN l := by
 obtain ⟨_, _, _, hn, hs⟩ := checkE_ok h
 exact fewN_ext (rising_up hn).nodup hn (fun x hx => hs x (mem_rising.1 hx)) fun x => mem_rising
end Go.Proofs.YtfnalecnnmkgbaaDoor
/- Check and Fewest, by the program. -/
namespace Go.Proofs.YtfnalecnnmkgbaaDoor
open Go.Sl
variable {S : Nat → Prop} {w0 : World} {η : Heap}
/-- Searches that are valid, in order. -/
structure Opn (S : Nat → Prop) (w0 : World) (cols : Int) (l L : List Int) (a : Option Addr) (c : Nat) (v : Value) (oa : Option Addr) (oc : Nat) (og sg : Seg) : Prop where
 eq : L = risingS l
 ok : RisOk L
 ck : checkE cols l = 0
 v : v = .slice oa L.length oc
 o : OSl 3 1 (.slice oa L.length oc) L.length (ints L) og
theorem opened_risen {a : Option Addr} {l : List Int} {c : Nat} (cols : Int) (hx : Row S w0 [] a (ints l)) (hl : l.length < 2 ^ 63) (hc : l.length ≤ c) : RtE Tryd.prog 34 [.int .i64 cols, .slice a l.length c].toArray S w0 η (fun v η' => ∃ L oa oc og sg, Opn S w0 cols l L a c v oa oc og sg ∧ η' = og :: sg :: η) (fun ch η' => checkE cols l ≠ 0 ∧ ch = stopV (checkE cols l) ∧ η' = η) := by
 refine (opened_fn cols hx hl hc).mono (fun v η' h => ?_) (fun _ _ h => h)
 obtain ⟨oa, oc, og, b1, rfl, ho, hk, rfl⟩ := h
 refine ⟨risingS l, oa, oc, og, _, ⟨rfl, ris_ok hk, hk, by rw [risingS_len], by rw [risingS_len]; exact ho⟩, rfl⟩
set_option maxHeartbeats 2000000 in
theorem Check_prog {a : Option Addr} {l : List Int} {c : Nat} (cols : Int) (hx : Row S w0 [] a (ints l)) (hl : l.length < 2 ^ 63) (hc : l.length ≤ c) :
  Rt Tryd.prog 20 [.int .i64 cols, .slice a l.length c].toArray S w0 η (fun v η' => v = .int .i64 (checkE cols l) ∧ ∃ segs, η' = segs ++ η) := by
 have hF := open_wide
 refine Rt.ofL (fn := Tryd.f20) Tryd.func20 rfl rfl ?_
 refine T.seq ?_
 refine T.region ?_
 refine TL.alloc hF rfl (fun b4 => ?_)
 refine TL.nil ?_
 refine TQ.then_n ?_
 refine T.seq ?_
 refine T.region ?_
 refine TL.makeFunc hF rfl rfl rfl ?_
 refine TL.defer hF rfl rfl ?_
 refine TL.nil ?_
 refine TQ.then_n ?_
 refine T.seq ?_
 refine T.region ?_
 refine TL.move hF rfl rfl ?_
 refine TL.move hF rfl rfl ?_
 refine TL.callE hF (opened_risen cols hx hl hc) rfl rfl ?_ ?_
 ·rintro _ _ ⟨L, oa, oc, og, sg, ⟨hLe, hR, hk, rfl, ho⟩, rfl⟩
  refine TL.nil ?_
  refine TQ.then_n ?_
  refine T.seq ?_
  refine T.region ?_
  refine TL.storeI hF 2 rfl rfl rfl rfl (by decide) ?_
  refine TL.nil ?_
  refine TQ.then_n ?_
  refine T.ret ?_
  refine TQ.retL [] _ stop53 (stopped_nil _) rfl rfl rfl (own_mem (e := ERR) (fz := (0, 0)) (cs := #[.int .i64 0]) (by simp [Value.cells]) rfl) ?_
  rw [hk]; exact ⟨rfl, [_, _, _], rfl⟩
 ·rintro _ _ ⟨he, rfl, rfl⟩
  refine TQ.then_p ?_
  refine TQ.panL [] [] stop53 (stopped_err _) rfl rfl rfl (At.own' (i := 0) rfl rfl) ?_
  exact ⟨rfl, [_], rfl⟩
set_option maxHeartbeats 2000000 in
theorem Fewest_prog {a : Option Addr} {l : List Int} {c : Nat} (cols : Int) (hx : Row S w0 [] a (ints l)) (hl : l.length < 2 ^ 63) (hc : l.length ≤ c) (hg : Kinds S w0) :
  Rt Tryd.prog 12 [.int .i64 cols, .slice a l.length c].toArray S w0 η (fun v η' => v = .tuple #[.int .i64 (fewestS cols l).1, .int .i64 (fewestS cols l).2] ∧ ∃ segs, η' = segs ++ η) := by
 have hF := open_wide
 refine Rt.ofL (fn := Tryd.f12) Tryd.func12 rfl rfl ?_
 refine T.seq ?_
 refine T.region ?_
 refine TL.assign hF rfl rfl ?_
 refine TL.alloc hF rfl (fun b5 => ?_)
 refine TL.nil ?_
 refine TQ.then_n ?_
 refine T.seq ?_
 refine T.region ?_
 refine TL.makeFunc hF rfl rfl rfl ?_
 refine TL.defer hF rfl rfl ?_
 refine TL.nil ?_
 refine TQ.then_n ?_
 refine T.seq ?_
 refine T.region ?_
 refine TL.move hF rfl rfl ?_
 refine TL.move hF rfl rfl ?_
 refine TL.callE hF (opened_risen cols hx hl hc) rfl rfl ?_ ?_
 ·rintro _ _ ⟨L, oa, oc, og, sg, ⟨hLe, hR, hk, rfl, ho⟩, rfl⟩
  have hL24 := hR.le
  have hsL := hR.sets
  have hnL := hR.up.nodup
  refine TL.freeze [og, sg] rfl (fun S1 w1 hz1 => ?_)
  have hrr : Row S1 w1 [] oa (ints L) := (ho.row (η := [og, sg]) List.mem_cons_self).frz hz1
  have hcap := osl_cap ho
  refine TL.callV hF (fewest_fn (hg.old hz1) hrr (by omega) hnL hsL) rfl rfl ?_
  refine TL.assign hF rfl rfl ?_
  refine TL.storeI hF 0 rfl rfl rfl rfl (by decide) ?_
  refine TL.nil ?_
  refine TQ.then_n ?_
  refine T.ret ?_
  refine TQ.thaw hz1 ?_
  refine TQ.retL [4] _ stop31 (stopped_nil _) rfl rfl rfl (own_mem (e := ERR) (fz := (0, 0)) (cs := #[.int .i64 0]) (by simp [Value.cells]) rfl) ?_
  have e : fewestS cols l = (fewN (risingS l), 0) := by rw [fewN_rising hk]; unfold fewestS; rw [if_pos hk]
  rw [e, ← hLe]; exact ⟨rfl, [_, _, _], rfl⟩
 ·rintro _ _ ⟨he, rfl, rfl⟩
  refine TQ.then_p ?_
  refine TQ.panL [4] [.int .i64 0] stop31 (stopped_err _) rfl rfl rfl (At.own' (i := 0) rfl rfl) ?_
  have e : fewestS cols l = (0, checkE cols l) := by unfold fewestS; rw [if_neg he]
  rw [e]; exact ⟨rfl, [_], rfl⟩
end Go.Proofs.YtfnalecnnmkgbaaDoor
/- What of lists something holds: by functions. -/
namespace Go.Proofs.YtfnalecnnmkgbaaDoor
open Go.Sl
variable {S : Nat → Prop} {w0 : World} {η : Heap}
set_option maxHeartbeats 2000000 in
theorem filtered_fn {a : Option Addr} {xs : List Int} {c : Nat} {g : Nat} [Ent Tryd.prog g] {caps : List Value} (p : Int → Bool) (hx : Row S w0 [] a (ints xs)) (hl : xs.length < 4294967296) (hp : ∀ x ∈ xs, ∀ og, Rt Tryd.prog g (.int .i64 x :: caps).toArray S w0 (og :: η) (fun v η' => v = .bool (p x) ∧ η' = og :: η)) :
  Rt Tryd.prog 47 [.slice a xs.length c, .func (.func g) #[] caps.toArray].toArray S w0 η (fun v η' => ∃ oa oc og, v = .slice oa (xs.filter p).length oc ∧ OSl 3 1 (.slice oa (xs.filter p).length oc) (xs.filter p).length (ints (xs.filter p)) og ∧ η' = og :: η) := by
 have hF := open_wide
 refine Rt.of (fn := Tryd.f47) Tryd.func47 rfl rfl ?_
 refine T.seq ?_
 refine T.region ?_
 refine TL.assign hF rfl rfl ?_
 refine TL.nil ?_
 refine TQ.then_n ?_
 refine T.seq ?_
 refine T.seq ?_
 refine T.region ?_
 refine TL.move hF rfl rfl ?_
 refine TL.len hF rfl rfl ?_
 refine TL.move hF rfl rfl ?_
 refine TL.nil ?_
 refine TQ.then_n ?_
 refine T.block ?_
 refine T.hnil ?_
 refine T.loop (ι := Nat × Option Addr × Nat × Seg) (fun z => match z with | (k, oa, oc, og) => k ≤ xs.length ∧ OSl 3 1 (.slice oa ((xs.take k).filter p).length oc) ((xs.take k).filter p).length (ints ((xs.take k).filter p)) og) (fun z => match z with | (k, oa, oc, og) => [(1, .func (.func g) #[] caps.toArray), (7, .slice a xs.length c), (8, .int .i64 (xs.length : Int)), (4, .slice oa ((xs.take k).filter p).length oc), (9, .int .i64 (k : Int))]) (fun z => match z with | (k, oa, oc, og) => og :: η) (fun z => xs.length - z.1) (0, none, 0, []) ⟨Nat.zero_le _, OSl.nil _ _⟩ ⟨rfl, rfl, rfl, rfl, rfl, trivial⟩ rfl ?_
 rintro ⟨k, oa, oc, og⟩ ⟨hk, ho⟩
 refine T.seq ?_
 refine T.region ?_
 refine TL.bin hF rfl rfl rfl rfl ?_
 refine TL.nil ?_
 refine TQ.then_n ?_
 refine T.seq ?_
 first | refine T.cond_d rfl (fun ht10 => ?_) (fun ht10 => ?_) | refine T.cond _ rfl (fun ht10 => ?_) (fun ht10 => ?_)
 ·refine T.skip ?_
  refine TQ.then_n ?_
  refine T.seq ?_
  refine T.block ?_
  refine T.seq ?_
  refine T.region ?_
  have hkl : k < xs.length := by have h : (k : Int) < (xs.length : Int) := ht10; omega
  have hfl := filter_len (p := p) (l := xs) (k := k)
  refine TL.indexAddr hF rfl rfl (hx.adi (i := k) (by simp; omega)) (by omega) (by omega) rfl ?_
  refine TL.load hF rfl (hx.ro.int (i := k) hkl) rfl ?_
  refine TL.assign hF rfl rfl ?_
  refine TL.nil ?_
  refine TQ.then_n ?_
  refine T.seq ?_
  refine T.region ?_
  refine TL.move hF rfl rfl ?_
  refine TL.move hF rfl rfl ?_
  refine TL.callV hF (hp _ (List.getElem_mem hkl) og) rfl rfl ?_
  refine TL.nil ?_
  refine TQ.then_n ?_
  refine T.cond _ rfl (fun ht15 => ?_) (fun ht15 => ?_)
  ·refine T.region ?_
   refine TL.move hF rfl rfl ?_
   refine TL.move hF rfl rfl ?_
   refine TL.buildSlice hF rfl (cs := #[.int .i64 xs[k]]) (e := 3) (fun w => by kernel_rfl) rfl (fun b18 => ?_)
   refine TL.append hF 1 rfl rfl rfl ho (row_own (cs := [.int .i64 xs[k]]) (e := 3) (by simp)).src rfl rfl (by simp [Value.oneCell']) (by omega) (by omega) rfl (fun qa qc qg qh => ?_)
   rw [← ints_app] at qh
   refine TL.assign hF rfl rfl ?_
   refine TL.nil ?_
   refine TQ.block_n ?_
   refine TQ.then_n ?_
   refine T.region ?_
   refine TL.add hF rfl rfl (by omega) (by omega) rfl ?_
   refine TL.move hF rfl rfl ?_
   refine TL.nil ?_
   have e1 : ((xs.take (k + 1)).filter p) = ((xs.take k).filter p) ++ [xs[k]] := by rw [filter_take hkl, if_pos ht15]
   refine TQ.pop ?_
   refine TQ.round (k + 1, qa, qc, qg) ⟨by omega, by rw [e1, List.length_append]; exact qh⟩ (by dsimp only; omega) ⟨rfl, rfl, rfl, congrArg (fun n : Nat => some (Value.slice qa n qc)) (by rw [e1, List.length_append]; rfl), rfl, trivial⟩ rfl
  ·refine T.skip ?_
   refine TQ.block_n ?_
   refine TQ.then_n ?_
   refine T.region ?_
   refine TL.add hF rfl rfl (by omega) (by omega) rfl ?_
   refine TL.move hF rfl rfl ?_
   refine TL.nil ?_
   have e1 : ((xs.take (k + 1)).filter p) = ((xs.take k).filter p) := by rw [filter_take hkl, if_neg (by rw [ht15]; decide), List.append_nil]
   refine TQ.round (k + 1, oa, oc, og) ⟨by omega, by rw [e1]; exact ho⟩ (by dsimp only; omega) ⟨rfl, rfl, rfl, congrArg (fun l : List Int => some (Value.slice oa l.length oc)) e1.symm, rfl, trivial⟩ rfl
 ·refine T.exit ?_
  refine TQ.then_x ?_
  refine TQ.then_x ?_
  refine TQ.block_x ?_
  refine TQ.then_n ?_
  refine T.seq ?_
  refine T.region ?_
  refine TL.move hF rfl rfl ?_
  refine TL.assign hF rfl rfl ?_
  refine TL.nil ?_
  refine TQ.then_n ?_
  refine T.ret ?_
  refine TQ.rets [4] _ rfl rfl rfl ?_
  have hkn : k = xs.length := by have h : ¬ (k : Int) < (xs.length : Int) := ht10; omega
  have e : ((xs.take k).filter p) = xs.filter p := by rw [List.take_of_length_le (by omega)]
  rw [e] at ho
  exact ⟨oa, oc, og, by rw [e]; rfl, ho, rfl⟩
/-- The first one of which something is so. -/
def whereQ (q : Int → Bool) : List Int → Nat → Int
 | [], _ => -1
 | x :: xs, i => if q x then i else whereQ q xs (i + 1)
theorem whereQ_ge {q : Int → Bool} : ∀ {xs : List Int} {i : Nat}, (0 ≤ whereQ q xs i) ↔ xs.any q = true
 | [], i => by simp [whereQ]
 | x :: xs, i => by
  unfold whereQ
  rw [List.any_cons]
  by_cases h : q x = true
  ·simp [h]
  ·rw [if_neg h, whereQ_ge (xs := xs)]; simp [h]
set_option maxHeartbeats 2000000 in
theorem IndexFunc_fn {a : Option Addr} {xs : List Int} {c : Nat} {g : Nat} [Ent Tryd.prog g] {caps : List Value} (q : Int → Bool) (hx : Row S w0 η a (ints xs)) (hl : xs.length < 2 ^ 63) (hq : ∀ x ∈ xs, Rt Tryd.prog g (.int .i64 x :: caps).toArray S w0 η (fun v η' => v = .bool (q x) ∧ η' = η)) :
  Rt Tryd.prog 66 [.slice a xs.length c, .func (.func g) #[] caps.toArray].toArray S w0 η (fun v η' => v = .int .i64 (whereQ q xs 0) ∧ η' = η) := by
 have hF := open_wide
 refine Rt.of (fn := Tryd.f66) Tryd.func66 rfl rfl ?_
 refine T.seq ?_
 refine T.region ?_
 refine TL.assign hF rfl rfl ?_
 refine TL.nil ?_
 refine TQ.then_n ?_
 refine T.seq ?_
 refine T.seq ?_
 refine T.region ?_
 refine TL.move hF rfl rfl ?_
 refine TL.len hF rfl rfl ?_
 refine TL.move hF rfl rfl ?_
 refine TL.nil ?_
 refine TQ.then_n ?_
 refine T.block ?_
 refine T.loop (ι := Nat) (fun k => k ≤ xs.length ∧ whereQ q xs 0 = whereQ q (xs.drop k) k) (fun k => [(0, .slice a xs.length c), (1, .func (.func g) #[] caps.toArray), (7, .int .i64 (xs.length : Int)), (8, .int .i64 (k : Int))]) (fun _ => η) (fun k => xs.length - k) 0 ⟨Nat.zero_le _, by simp⟩ ⟨rfl, rfl, rfl, rfl, trivial⟩ rfl ?_
 rintro k ⟨hk, hs⟩
 refine T.seq ?_
 refine T.region ?_
 refine TL.bin hF rfl rfl rfl rfl ?_
 refine TL.nil ?_
 refine TQ.then_n ?_
 refine T.seq ?_
 first | refine T.cond_d rfl (fun ht9 => ?_) (fun ht9 => ?_) | refine T.cond _ rfl (fun ht9 => ?_) (fun ht9 => ?_)
 ·refine T.skip ?_
  refine TQ.then_n ?_
  refine T.seq ?_
  refine T.block ?_
  refine T.seq ?_
  refine T.region ?_
  refine TL.move hF rfl rfl ?_
  refine TL.assign hF rfl rfl ?_
  refine TL.nil ?_
  refine TQ.then_n ?_
  refine T.seq ?_
  refine T.region ?_
  refine TL.move hF rfl rfl ?_
  refine TL.move hF rfl rfl ?_
  refine TL.move hF rfl rfl ?_
  refine TL.indexAddr hF rfl rfl (hx.adi (i := k) (by simp; omega)) (by omega) (by omega) rfl ?_
  refine TL.load hF rfl (hx.int (i := k) (by omega)) rfl ?_
  refine TL.callV hF (hq _ (List.getElem_mem (by omega))) rfl rfl ?_
  refine TL.nil ?_
  refine TQ.then_n ?_
  refine T.cond _ rfl (fun ht16 => ?_) (fun ht16 => ?_)
  ·refine T.seq ?_
   refine T.region ?_
   refine TL.move hF rfl rfl ?_
   refine TL.assign hF rfl rfl ?_
   refine TL.nil ?_
   refine TQ.then_n ?_
   refine T.ret ?_
   refine TQ.block_r ?_
   refine TQ.then_r ?_
   refine TQ.then_r ?_
   refine TQ.block_r ?_
   refine TQ.then_r ?_
   refine TQ.rets [4] _ rfl rfl rfl ?_
   exact ⟨by rw [hs, drop_step (by omega), whereQ, if_pos ht16]; rfl, rfl⟩
  ·refine T.skip ?_
   refine TQ.block_n ?_
   refine TQ.then_n ?_
   refine T.region ?_
   refine TL.add hF rfl rfl (by omega) (by omega) rfl ?_
   refine TL.move hF rfl rfl ?_
   refine TL.nil ?_
   refine TQ.round (k + 1) ⟨by omega, by rw [hs, drop_step (by omega), whereQ, if_neg (by rw [ht16]; simp)]⟩ (by omega) ⟨rfl, rfl, rfl, rfl, trivial⟩ rfl
 ·refine T.exit ?_
  refine TQ.then_x ?_
  refine TQ.then_x ?_
  refine TQ.block_x ?_
  refine TQ.then_n ?_
  refine T.seq ?_
  refine T.region ?_
  refine TL.assign hF rfl rfl ?_
  refine TL.nil ?_
  refine TQ.then_n ?_
  refine T.ret ?_
  refine TQ.rets [4] _ rfl rfl rfl ?_
  exact ⟨by rw [hs, List.drop_of_length_le (by omega)]; rfl, rfl⟩
set_option maxHeartbeats 2000000 in
theorem ContainsFunc_fn {a : Option Addr} {xs : List Int} {c : Nat} {g : Nat} [Ent Tryd.prog g] {caps : List Value} (q : Int → Bool) (hx : Row S w0 η a (ints xs)) (hl : xs.length < 2 ^ 63) (hq : ∀ x ∈ xs, Rt Tryd.prog g (.int .i64 x :: caps).toArray S w0 η (fun v η' => v = .bool (q x) ∧ η' = η)) :
  Rt Tryd.prog 49 [.slice a xs.length c, .func (.func g) #[] caps.toArray].toArray S w0 η (fun v η' => v = .bool (xs.any q) ∧ η' = η) := by
 have hF := open_wide
 refine Rt.of (fn := Tryd.f49) Tryd.func49 rfl rfl ?_
 refine T.seq ?_
 refine T.region ?_
 refine TL.assign hF rfl rfl ?_
 refine TL.nil ?_
 refine TQ.then_n ?_
 refine T.seq ?_
 refine T.region ?_
 refine TL.move hF rfl rfl ?_
 refine TL.move hF rfl rfl ?_
 refine TL.callV hF (IndexFunc_fn q hx hl hq) rfl rfl ?_
 refine TL.bin hF rfl rfl rfl rfl ?_
 refine TL.assign hF rfl rfl ?_
 refine TL.nil ?_
 refine TQ.then_n ?_
 refine T.ret ?_
 refine TQ.rets [4] _ rfl rfl rfl ?_
 exact ⟨congrArg Value.bool (by rw [Bool.eq_iff_iff, decide_eq_true_eq]; exact whereQ_ge), rfl⟩
set_option maxHeartbeats 2000000 in
theorem wit21_fn' (u y : Nat) (hu : u < 1024) (hy : y < 1024) {b : Nat} (hg : Kinds S w0) (hb : [(b, Obj.cells #[.int .i64 (u : Int)] 3 (0, 0))] ∈ η) : Rt Tryd.prog 50 [.int .i64 (y : Int), ptr b].toArray S w0 η (fun v η' => v = .bool (!apartI (u : Int) (y : Int)) ∧ η' = η) := by
 have hF := open_wide
 refine Rt.of (fn := Tryd.f50) Tryd.func50 rfl rfl ?_
 refine T.seq ?_
 refine T.region ?_
 refine TL.assign hF rfl rfl ?_
 refine TL.nil ?_
 refine TQ.then_n ?_
 refine T.seq ?_
 refine T.region ?_
 refine TL.indexAddrA hF rfl rfl (by decide) (by decide) rfl ?_
 refine TL.fieldAddr hF rfl rfl ?_
 refine TL.load hF rfl (hg.at (o := 1) (by omega)) rfl ?_
 refine TL.load hF rfl (own_mem hb rfl) rfl ?_
 refine TL.move hF rfl rfl ?_
 refine TL.build hF rfl (r := .agg #[.int .i64 (u : Int), .int .i64 (y : Int)]) (fun w => by kernel_rfl) rfl ?_
 refine TL.call hF (apart_fn u y hu hy) rfl rfl ?_
 rintro _ _ ⟨rfl, segs, rfl⟩
 refine TL.hsub _ (List.sublist_append_right _ _) ?_
 refine TL.not hF rfl rfl ?_
 refine TL.assign hF rfl rfl ?_
 refine TL.nil ?_
 refine TQ.then_n ?_
 refine T.ret ?_
 refine TQ.rets [3] _ rfl rfl rfl ?_
 exact ⟨rfl, rfl⟩
theorem wit21_fn {u y : Int} (hu : 0 ≤ u ∧ u < 1024) (hy : 0 ≤ y ∧ y < 1024) {b : Nat} (hg : Kinds S w0) (hb : [(b, Obj.cells #[.int .i64 u] 3 (0, 0))] ∈ η) : Rt Tryd.prog 50 [.int .i64 y, ptr b].toArray S w0 η (fun v η' => v = .bool (!apartI u y) ∧ η' = η) := by
 obtain ⟨u, rfl, hu2⟩ := nat_of hu
 obtain ⟨y, rfl, hy2⟩ := nat_of hy
 exact wit21_fn' u y hu2 hy2 hg hb
set_option maxHeartbeats 2000000 in
theorem wit3_fn' (u y : Nat) (hu : u < 1024) (hy : y < 1024) {b : Nat} (hg : Kinds S w0) (hb : [(b, Obj.cells #[.int .i64 (u : Int)] 3 (0, 0))] ∈ η) : Rt Tryd.prog 51 [.int .i64 (y : Int), ptr b].toArray S w0 η (fun v η' => v = .bool (!apartI (u : Int) (y : Int)) ∧ η' = η) := by
 have hF := open_wide
 refine Rt.of (fn := Tryd.f51) Tryd.func51 rfl rfl ?_
 refine T.seq ?_
 refine T.region ?_
 refine TL.assign hF rfl rfl ?_
 refine TL.nil ?_
 refine TQ.then_n ?_
 refine T.seq ?_
 refine T.region ?_
 refine TL.indexAddrA hF rfl rfl (by decide) (by decide) rfl ?_
 refine TL.fieldAddr hF rfl rfl ?_
 refine TL.load hF rfl (hg.at (o := 1) (by omega)) rfl ?_
 refine TL.load hF rfl (own_mem hb rfl) rfl ?_
 refine TL.move hF rfl rfl ?_
 refine TL.build hF rfl (r := .agg #[.int .i64 (u : Int), .int .i64 (y : Int)]) (fun w => by kernel_rfl) rfl ?_
 refine TL.call hF (apart_fn u y hu hy) rfl rfl ?_
 rintro _ _ ⟨rfl, segs, rfl⟩
 refine TL.hsub _ (List.sublist_append_right _ _) ?_
 refine TL.not hF rfl rfl ?_
 refine TL.assign hF rfl rfl ?_
 refine TL.nil ?_
 refine TQ.then_n ?_
 refine T.ret ?_
 refine TQ.rets [3] _ rfl rfl rfl ?_
 exact ⟨rfl, rfl⟩
theorem wit3_fn {u y : Int} (hu : 0 ≤ u ∧ u < 1024) (hy : 0 ≤ y ∧ y < 1024) {b : Nat} (hg : Kinds S w0) (hb : [(b, Obj.cells #[.int .i64 u] 3 (0, 0))] ∈ η) : Rt Tryd.prog 51 [.int .i64 y, ptr b].toArray S w0 η (fun v η' => v = .bool (!apartI u y) ∧ η' = η) := by
 obtain ⟨u, rfl, hu2⟩ := nat_of hu
 obtain ⟨y, rfl, hy2⟩ := nat_of hy
 exact wit3_fn' u y hu2 hy2 hg hb
set_option maxHeartbeats 2000000 in
theorem wit2_fn {x : Int} {ws : List Int} {b : Nat} {wa : Option Addr} {wc : Nat} (hg : Kinds S w0) (hx : 0 ≤ x ∧ x < 1024) (hws : Sets ws) (hl : ws.length < 2 ^ 63) (hw : Row S w0 η wa (ints ws)) (hb : [(b, Obj.cells #[.slice wa ws.length wc] 22 (0, 0))] ∈ η) :
  Rt Tryd.prog 48 [.int .i64 x, ptr b].toArray S w0 η (fun v η' => v = .bool (!(ws.any fun y => !apartI x y)) ∧ η' = η) := by
 have hF := open_wide
 refine Rt.of (fn := Tryd.f48) Tryd.func48 rfl rfl ?_
 refine T.seq ?_
 refine T.region ?_
 refine TL.box hF rfl rfl (fun b2 => ?_)
 refine TL.assign hF rfl rfl ?_
 refine TL.nil ?_
 refine TQ.then_n ?_
 refine T.seq ?_
 refine T.region ?_
 refine TL.load hF rfl ((own_mem hb rfl).up upc) rfl ?_
 refine TL.makeFunc hF rfl rfl rfl ?_
 refine TL.callV hF (ContainsFunc_fn (fun y => !apartI x y) (hw.up upc) hl (fun y hy => wit21_fn hx (hws y hy) hg List.mem_cons_self)) rfl rfl ?_
 refine TL.not hF rfl rfl ?_
 refine TL.assign hF rfl rfl ?_
 refine TL.nil ?_
 refine TQ.then_n ?_
 refine T.ret ?_
 refine TQ.pop ?_
 refine TQ.rets [3] _ rfl rfl rfl ?_
 exact ⟨rfl, rfl⟩
end Go.Proofs.YtfnalecnnmkgbaaDoor
/- Lists, one behind the other. -/
namespace Go.Proofs.YtfnalecnnmkgbaaDoor
open Go.Sl
variable {S : Nat → Prop} {w0 : World} {η : Heap}
/-- Lists, one behind the other. -/
def catN (ps : List HL) (k : Nat) : List Int := ((tx ps).take k).flatten
theorem catN_succ {ps : List HL} {k : Nat} (h : k < ps.length) : catN ps (k + 1) = catN ps k ++ ps[k].2.1 := by
 unfold catN
 rw [List.take_succ_eq_append_getElem (by rw [tx_len]; exact h), List.flatten_append, tx_get h]; simp
theorem catN_le {ps : List HL} : ∀ {k : Nat}, k ≤ ps.length → (catN ps k).length ≤ (catN ps ps.length).length := fun {k} h => by
 unfold catN
 conv => rhs; rw [List.take_of_length_le (by rw [tx_len]; exact Nat.le_refl _), ← List.take_append_drop k (tx ps)]
 rw [List.flatten_append, List.length_append]; omega
def jcell (ps : List HL) (k : Nat) : List Value := ints (catN ps k) ++ List.replicate ((catN ps ps.length).length - (catN ps k).length) (.int .i64 0)
theorem jcell_len {ps : List HL} {k : Nat} (h : k ≤ ps.length) : (jcell ps k).length = (catN ps ps.length).length := by
 have := catN_le h
 unfold jcell ints; rw [List.length_append, List.length_map, List.length_replicate]; omega
theorem jcell_step {ps : List HL} {k : Nat} (h : k < ps.length) : (jcell ps k).take (catN ps k).length ++ ints ps[k].2.1 ++ (jcell ps k).drop ((catN ps k).length + ps[k].2.1.length * 1) = jcell ps (k + 1) := by
 have e := catN_succ h
 have e2 := congrArg List.length e
 rw [List.length_append] at e2
 unfold jcell
 have hl : (ints (catN ps k)).length = (catN ps k).length := by simp [ints]
 rw [List.take_append_of_le_length (by rw [hl]; exact Nat.le_refl _), List.take_of_length_le (by rw [hl]; exact Nat.le_refl _), List.drop_append, List.drop_of_length_le (by rw [hl]; omega), List.nil_append, e]
 rw [show ints (catN ps k ++ ps[k].2.1) = ints (catN ps k) ++ ints ps[k].2.1 by simp [ints], ← e, e2]
 congr 1
 rw [List.drop_replicate, hl]
 congr 1; omega
set_option maxHeartbeats 2000000 in
theorem joined_fn {a : Option Addr} {ps : List HL} {c : Nat} (hx : LL S w0 [] a ps) (hl : ps.length < 2 ^ 63) (hN : (catN ps ps.length).length < 4294967296) (hne : ∀ k, k < ps.length → (catN ps k).length < (catN ps ps.length).length) :
  Rt Tryd.prog 46 [.slice a ps.length c].toArray S w0 η (fun v η' => ∃ oa oc og, v = .slice oa (catN ps ps.length).length oc ∧ OSl 3 1 (.slice oa (catN ps ps.length).length oc) (catN ps ps.length).length (ints (catN ps ps.length)) og ∧ η' = og :: η) := by
 have hF := open_wide
 refine Rt.of (fn := Tryd.f46) Tryd.func46 rfl rfl ?_
 refine T.seq ?_
 refine T.region ?_
 refine TL.assign hF rfl rfl ?_
 refine TL.nil ?_
 refine TQ.then_n ?_
 refine T.seq ?_
 refine T.region ?_
 refine TL.assign hF rfl rfl ?_
 refine TL.nil ?_
 refine TQ.then_n ?_
 refine T.seq ?_
 refine T.seq ?_
 refine T.region ?_
 refine TL.move hF rfl rfl ?_
 refine TL.len hF rfl rfl ?_
 refine TL.move hF rfl rfl ?_
 refine TL.nil ?_
 refine TQ.then_n ?_
 refine T.block ?_
 refine T.loop (ι := Nat) (fun k => k ≤ ps.length) (fun k => [(0, .slice a ps.length c), (2, .slice none 0 0), (3, (.int .i64 ((catN ps k).length : Int))), (9, .slice a ps.length c), (10, .int .i64 (ps.length : Int)), (11, .int .i64 (k : Int))]) (fun _ => η) (fun k => ps.length - k) 0 (Nat.zero_le _) ⟨rfl, rfl, rfl, rfl, rfl, rfl, trivial⟩ rfl ?_
 intro k hk
 refine T.seq ?_
 refine T.region ?_
 refine TL.bin hF rfl rfl rfl rfl ?_
 refine TL.nil ?_
 refine TQ.then_n ?_
 refine T.seq ?_
 first | refine T.cond_d rfl (fun ht12 => ?_) (fun ht12 => ?_) | refine T.cond _ rfl (fun ht12 => ?_) (fun ht12 => ?_)
 ·refine T.skip ?_
  refine TQ.then_n ?_
  refine T.seq ?_
  refine T.block ?_
  refine T.seq ?_
  refine T.region ?_
  have hkl : k < ps.length := by have h : (k : Int) < (ps.length : Int) := ht12; omega
  have hcs := congrArg List.length (catN_succ hkl)
  rw [List.length_append] at hcs
  have hcl := catN_le (k := k + 1) hkl
  refine TL.indexAddr hF rfl rfl (hx.ad (i := k) hkl) (by omega) (by omega) rfl ?_
  refine TL.load hF rfl (hx.ro.at (i := k) hkl) rfl ?_
  refine TL.assign hF rfl rfl ?_
  refine TL.nil ?_
  refine TQ.then_n ?_
  refine T.region ?_
  refine TL.move hF rfl rfl ?_
  refine TL.move hF rfl rfl ?_
  refine TL.len hF rfl rfl ?_
  refine TL.add hF rfl rfl (by omega) (by omega) rfl ?_
  refine TL.assign hF rfl rfl ?_
  refine TL.nil ?_
  refine TQ.block_n ?_
  refine TQ.then_n ?_
  refine T.region ?_
  refine TL.add hF rfl rfl (by omega) (by omega) rfl ?_
  refine TL.move hF rfl rfl ?_
  refine TL.nil ?_
  refine TQ.round (k + 1) hkl (by omega) ⟨rfl, rfl, congrArg (fun z => some (Value.int .i64 z)) (by omega), rfl, rfl, rfl, trivial⟩ rfl
 ·refine T.exit ?_
  refine TQ.then_x ?_
  refine TQ.then_x ?_
  refine TQ.block_x ?_
  refine TQ.then_n ?_
  refine T.seq ?_
  refine T.region ?_
  refine TL.move hF rfl rfl ?_
  have hkn : k = ps.length := by have h : ¬ (k : Int) < (ps.length : Int) := ht12; omega
  subst hkn
  refine TL.makeSlice hF rfl rfl rfl (by omega) (by omega) rfl (fun ob => ?_)
  refine TL.assign hF rfl rfl ?_
  refine TL.nil ?_
  refine TQ.then_n ?_
  refine T.seq ?_
  refine T.region ?_
  refine TL.assign hF rfl rfl ?_
  refine TL.nil ?_
  refine TQ.then_n ?_
  refine T.seq ?_
  refine T.seq ?_
  refine T.region ?_
  refine TL.move hF rfl rfl ?_
  refine TL.len hF rfl rfl ?_
  refine TL.move hF rfl rfl ?_
  refine TL.nil ?_
  refine TQ.then_n ?_
  refine T.block ?_
  refine T.loop (ι := Nat) (fun k => k ≤ ps.length) (fun k => [(2, .slice none 0 0), (3, (.int .i64 ((catN ps k).length : Int))), (6, .slice (some ⟨ob, 0, none⟩) (catN ps ps.length).length (catN ps ps.length).length), (22, .slice a ps.length c), (23, .int .i64 (ps.length : Int)), (24, .int .i64 (k : Int))]) (fun k => [(ob, Obj.cells (jcell ps k).toArray 3 (0, 0))] :: η) (fun k => ps.length - k) 0 (Nat.zero_le _) ⟨rfl, rfl, rfl, rfl, rfl, rfl, trivial⟩ rfl ?_
  intro k hk
  refine T.seq ?_
  refine T.region ?_
  refine TL.bin hF rfl rfl rfl rfl ?_
  refine TL.nil ?_
  refine TQ.then_n ?_
  refine T.seq ?_
  first | refine T.cond_d rfl (fun ht25 => ?_) (fun ht25 => ?_) | refine T.cond _ rfl (fun ht25 => ?_) (fun ht25 => ?_)
  ·refine T.skip ?_
   refine TQ.then_n ?_
   refine T.seq ?_
   refine T.block ?_
   refine T.seq ?_
   refine T.region ?_
   have hkl : k < ps.length := by have h : (k : Int) < (ps.length : Int) := ht25; omega
   have hcs := congrArg List.length (catN_succ hkl)
   rw [List.length_append] at hcs
   have hcl := catN_le (k := k + 1) hkl
   have hnz := hne k hkl
   have hjl := jcell_len hk
   refine TL.indexAddr hF rfl rfl (hx.ad (i := k) hkl) (by omega) (by omega) rfl ?_
   refine TL.load hF rfl (hx.ro.at (i := k) hkl) rfl ?_
   refine TL.assign hF rfl rfl ?_
   refine TL.nil ?_
   refine TQ.then_n ?_
   refine T.region ?_
   refine TL.move hF rfl rfl ?_
   refine TL.move hF rfl rfl ?_
   refine TL.move hF rfl rfl ?_
   refine TL.slice hF (i := (catN ps k).length) (j := (catN ps ps.length).length) rfl rfl rfl (by omega) (by omega) rfl ?_
   rw [if_neg (by omega), show Option.map (fun x : Addr => x.add ((catN ps k).length * 1)) (some ⟨ob, 0, none⟩) = some ⟨ob, 0 + (catN ps k).length * 1, none⟩ by simp only [Option.map_some, Addr.add]; split <;> simp_all]
   refine TL.move hF rfl rfl ?_
   refine TL.copy hF 0 (cs := jcell ps k) (e' := 3) (k := ps[k].2.1.length) (o := 0 + (catN ps k).length * 1) (m := ps[k].2.1.length) (dl := (catN ps ps.length).length - (catN ps k).length) (dc := (catN ps ps.length).length - (catN ps k).length) (ints ps[k].2.1) (jcell ps (k + 1)) rfl rfl rfl (by omega) (hx.it hkl).ro (by simp) (ints1 _) (by omega) (by rw [Nat.zero_add, Nat.mul_one]; exact jcell_step hkl) rfl ?_
   refine TL.add hF rfl rfl (by omega) (by omega) rfl ?_
   refine TL.assign hF rfl rfl ?_
   refine TL.nil ?_
   refine TQ.block_n ?_
   refine TQ.then_n ?_
   refine T.region ?_
   refine TL.add hF rfl rfl (by omega) (by omega) rfl ?_
   refine TL.move hF rfl rfl ?_
   refine TL.nil ?_
   refine TQ.round (k + 1) hkl (by omega) ⟨rfl, congrArg (fun z => some (Value.int .i64 z)) (by omega), rfl, rfl, rfl, rfl, trivial⟩ rfl
  ·refine T.exit ?_
   refine TQ.then_x ?_
   refine TQ.then_x ?_
   refine TQ.block_x ?_
   refine TQ.then_n ?_
   refine T.seq ?_
   refine T.region ?_
   refine TL.move hF rfl rfl ?_
   refine TL.assign hF rfl rfl ?_
   refine TL.nil ?_
   refine TQ.then_n ?_
   refine T.ret ?_
   refine TQ.rets [2] _ rfl rfl rfl ?_
   have hkn : k = ps.length := by have h : ¬ (k : Int) < (ps.length : Int) := ht25; omega
   subst hkn
   refine ⟨some ⟨ob, 0, none⟩, (catN ps ps.length).length, _, rfl, ?_, rfl⟩
   unfold jcell
   rw [Nat.sub_self, List.replicate_zero, List.append_nil]
   exact osl_fresh (by simp)
end Go.Proofs.YtfnalecnnmkgbaaDoor
/- The witness, by the program. -/
namespace Go.Proofs.YtfnalecnnmkgbaaDoor
open Go.Sl
variable {S : Nat → Prop} {w0 : World} {η : Heap}
theorem joined_own {ηr η2 : Heap} {a : Option Addr} {ps : List HL} {c : Nat} (hx : LL S w0 ηr a ps) (hl : ps.length < 2 ^ 63) (hN : (catN ps ps.length).length < 4294967296) (hne : ∀ k, k < ps.length → (catN ps k).length < (catN ps ps.length).length) :
  Rt Tryd.prog 46 [.slice a ps.length c].toArray S w0 (ηr ++ η2) (fun v η' => ∃ oa oc og, v = .slice oa (catN ps ps.length).length oc ∧ OSl 3 1 (.slice oa (catN ps ps.length).length oc) (catN ps ps.length).length (ints (catN ps ps.length)) og ∧ η' = ηr ++ og :: η2) :=
 Rt.frame ηr rfl fun S' w1 hz hb => (joined_fn (c := c) (hx.frz hz) hl hN hne).mono fun v η' ⟨oa, oc, og, h1, h2, h3⟩ => ⟨oa, oc, og, h1, h2, by rw [h3]⟩
/-- A list, and one number behind it. -/
theorem joined_one {ηr η2 : Heap} {a b ua : Option Addr} {out : List Int} {s : Int} {uc bc c : Nat} (hx : Row S w0 ηr a [.slice ua out.length uc, .slice b 1 bc]) (hu : Row S w0 ηr ua (ints out)) (hb : Row S w0 ηr b (ints [s])) (hl : out.length < 4000000) :
  Rt Tryd.prog 46 [.slice a 2 c].toArray S w0 (ηr ++ η2) (fun v η' => ∃ oa oc og, v = .slice oa (out.length + 1) oc ∧ OSl 3 1 (.slice oa (out.length + 1) oc) (out.length + 1) (ints (out ++ [s])) og ∧ η' = ηr ++ og :: η2) := by
 have e2 : catN [((ua, out, uc) : HL), (b, [s], bc)] 2 = out ++ [s] := by simp [catN, tx]
 have h := joined_own (η2 := η2) (ηr := ηr) (S := S) (w0 := w0) (a := a) (c := c) (ps := [((ua, out, uc) : HL), (b, [s], bc)]) ⟨hx, fun p hp => by
  simp only [List.mem_cons, List.not_mem_nil, or_false] at hp
  rcases hp with rfl | rfl
  ·exact hu
  ·exact hb⟩ (by simp) (by simp only [List.length_cons, List.length_nil, Nat.zero_add, e2, List.length_append]; omega) (fun k hk => by
  simp only [List.length_cons, List.length_nil, Nat.zero_add, e2, List.length_append] at hk ⊢
  match k, hk with
  | 0, _ => simp [catN]
  | 1, _ => simp [catN, tx])
 simp only [List.length_cons, List.length_nil, Nat.zero_add, e2, List.length_append] at h
 exact h
theorem fewest_own {ηr η2 : Heap} {a : Option Addr} {l : List Int} {c : Nat} (hg : Kinds S w0) (hx : Row S w0 ηr a (ints l)) (hl : l.length < 2 ^ 62) (hnd : l.Nodup) (hsl : Sets l) : Rt Tryd.prog 33 [.slice a l.length c].toArray S w0 (ηr ++ η2) (fun v η' => v = .int .i64 (fewN l) ∧ η' = ηr ++ η2) :=
 Rt.frame ηr rfl fun S' w1 hz hb => (fewest_fn (c := c) (hg.old hz) (hx.frz hz) hl hnd hsl).mono fun v η' ⟨h1, h2⟩ => ⟨h1, by rw [h2]⟩
/-- A search is apart from some. -/
def pW (ws : List Int) (x : Int) : Bool := !(ws.any fun y => !apartI x y)
/-- The witness, search by search. -/
def witP (n : Int) (L : List Int) : List Int → List Int → List Int
 | [], out => out
 | s :: r, out => if pW out s = true ∧ n ≤ ((out.length : Int) + 1) + fewN (L.filter (pW (out ++ [s]))) then witP n L r (out ++ [s]) else witP n L r out
def witnessP (cols : Int) (l : List Int) : List Int × Int := if checkE cols l = 0 then (witP (fewN (risingS l)) (risingS l) (risingS l) [], 0) else ([], checkE cols l)
set_option maxHeartbeats 2000000 in
theorem Witness_prog {a : Option Addr} {l : List Int} {c : Nat} (cols : Int) (hx : Row S w0 [] a (ints l)) (hl : l.length < 2 ^ 63) (hc : l.length ≤ c) (hg : Kinds S w0) :
  Rt Tryd.prog 18 [.int .i64 cols, .slice a l.length c].toArray S w0 η (ResT S w0 (witnessP cols l) η) := by
 have hF := open_wide
 refine Rt.ofL (fn := Tryd.f18) Tryd.func18 rfl rfl ?_
 refine T.seq ?_
 refine T.region ?_
 refine TL.assign hF rfl rfl ?_
 refine TL.alloc hF rfl (fun b5 => ?_)
 refine TL.nil ?_
 refine TQ.then_n ?_
 refine T.seq ?_
 refine T.region ?_
 refine TL.makeFunc hF rfl rfl rfl ?_
 refine TL.defer hF rfl rfl ?_
 refine TL.nil ?_
 refine TQ.then_n ?_
 refine T.seq ?_
 refine T.region ?_
 refine TL.move hF rfl rfl ?_
 refine TL.move hF rfl rfl ?_
 refine TL.callE hF (opened_risen cols hx hl hc) rfl rfl ?_ ?_
 ·rintro _ _ ⟨L, oa, oc, og, sg, ⟨hLe, hR, hk, rfl, ho⟩, rfl⟩
  have hL24 := hR.le
  have hsL := hR.sets
  have hnL := hR.up.nodup
  refine TL.freeze [og, sg] rfl (fun S1 w1 hz1 => ?_)
  have hrr : Row S1 w1 [] oa (ints L) := (ho.row (η := [og, sg]) List.mem_cons_self).frz hz1
  have hg1 := hg.old hz1
  have hcap := osl_cap ho
  refine TL.assign hF rfl rfl ?_
  refine TL.nil ?_
  refine TQ.then_n ?_
  refine T.seq ?_
  refine T.region ?_
  refine TL.move hF rfl rfl ?_
  refine TL.callV hF (fewest_fn hg1 hrr (by omega) hnL hsL) rfl rfl ?_
  refine TL.assign hF rfl rfl ?_
  refine TL.nil ?_
  refine TQ.then_n ?_
  refine T.seq ?_
  refine T.region ?_
  refine TL.assign hF rfl rfl ?_
  refine TL.nil ?_
  refine TQ.then_n ?_
  refine T.seq ?_
  refine T.seq ?_
  refine T.region ?_
  refine TL.move hF rfl rfl ?_
  refine TL.len hF rfl rfl ?_
  refine TL.move hF rfl rfl ?_
  refine TL.nil ?_
  refine TQ.then_n ?_
  refine T.block ?_
  refine T.hnil ?_
  refine T.heap (η' := [] :: [(b5, Obj.cells #[.int .i64 0] 24 (0, 0))] :: η) (by simp [Value.cells]) ?_
  refine T.loop (ι := Nat × List Int × Option Addr × Nat × Seg) (fun z => match z with | (k, out, ua, uc, ug) => k ≤ L.length ∧ out.length ≤ k ∧ Sets out ∧ OSl 3 1 (.slice ua out.length uc) out.length (ints out) ug ∧ witP (fewN L) L L [] = witP (fewN L) L (L.drop k) out) (fun z => match z with | (k, out, ua, uc, ug) => [(4, .slice none 0 0), (5, ptr b5), (6, .slice oa L.length oc), (7, .int .i64 (fewN L)), (8, .slice ua out.length uc), (20, .slice oa L.length oc), (21, .int .i64 (L.length : Int)), (22, .int .i64 (k : Int))]) (fun z => match z with | (k, out, ua, uc, ug) => ug :: [(b5, Obj.cells #[.int .i64 0] 24 (0, 0))] :: η) (fun z => L.length - z.1) (0, [], none, 0, []) ⟨Nat.zero_le _, Nat.le_refl _, fun _ h => by simp at h, OSl.nil _ _, rfl⟩ ⟨rfl, rfl, rfl, rfl, rfl, rfl, rfl, rfl, trivial⟩ rfl ?_
  rintro ⟨k, out, ua, uc, ug⟩ ⟨hk2, hol, hso, hou, hw⟩
  refine T.seq ?_
  refine T.region ?_
  refine TL.bin hF rfl rfl rfl rfl ?_
  refine TL.nil ?_
  refine TQ.then_n ?_
  refine T.seq ?_
  first | refine T.cond_d rfl (fun ht23 => ?_) (fun ht23 => ?_) | refine T.cond _ rfl (fun ht23 => ?_) (fun ht23 => ?_)
  ·refine T.skip ?_
   refine TQ.then_n ?_
   refine T.seq ?_
   refine T.block ?_
   refine T.seq ?_
   refine T.region ?_
   have hkl : k < L.length := by have h : (k : Int) < (L.length : Int) := ht23; omega
   have hdr : L.drop k = L[k] :: L.drop (k + 1) := drop_step hkl
   have hrk := hsL _ (List.getElem_mem hkl)
   rw [hdr] at hw
   refine TL.indexAddr hF rfl rfl (hrr.adi (i := k) (by simp; omega)) (by omega) (by omega) rfl ?_
   refine TL.load hF rfl (hrr.ro.int (i := k) hkl) rfl ?_
   refine TL.alloc hF rfl (fun b10 => ?_)
   refine TL.storeI hF 0 rfl rfl rfl rfl (by simp [Value.cells]) ?_
   refine TL.nil ?_
   refine TQ.then_n ?_
   refine T.seq ?_
   refine T.region ?_
   refine TL.move hF rfl rfl ?_
   refine TL.load hF rfl (own_mem (cs := #[.int .i64 L[k]]) (e := 3) (fz := (0, 0)) (by simp [Value.cells]) rfl) rfl ?_
   refine TL.buildSlice hF rfl (cs := #[.int .i64 L[k]]) (e := 3) (fun w => by kernel_rfl) rfl (fun b28 => ?_)
   refine TL.buildSlice hF rfl (cs := #[.slice ua out.length uc, .slice (some ⟨b28, 0, none⟩) 1 1]) (e := 22) (fun w => by kernel_rfl) rfl (fun b29 => ?_)
   refine TL.pick' [0, 1, 3, 2, 4] [_, _, _, _, _] rfl rfl rfl ?_
   refine TL.call hF (joined_one (ηr := [[(b29, Obj.cells #[.slice ua out.length uc, .slice (some ⟨b28, 0, none⟩) 1 1] 22 (0, 0))], [(b28, Obj.cells #[.int .i64 L[k]] 3 (0, 0))], ug]) (η2 := [(b10, Obj.cells #[.int .i64 L[k]] 3 (0, 0))] :: [(b5, Obj.cells #[.int .i64 0] 24 (0, 0))] :: η) (out := out) (s := L[k]) (row_own (e := 22) (cs := [.slice ua out.length uc, .slice (some ⟨b28, 0, none⟩) 1 1]) (by simp)) (hou.row (by simp)) (row_own (e := 3) (cs := [.int .i64 L[k]]) (by simp)) (by omega)) rfl rfl ?_
   rintro _ _ ⟨wa, wc, wg, rfl, hwo, rfl⟩
   have hle1 : (out ++ [L[k]]).length = out.length + 1 := by simp
   rw [← hle1] at hwo ⊢
   have hsw : Sets (out ++ [L[k]]) := fun x hx2 => by
    rcases List.mem_append.1 hx2 with h | h
    ·exact hso x h
    ·rw [List.mem_singleton.1 h]; exact hrk
   refine TL.alloc hF rfl (fun b11 => ?_)
   refine TL.storeI hF 0 rfl rfl rfl rfl (by simp [Value.cells]) ?_
   refine TL.nil ?_
   refine TQ.then_n ?_
   refine T.seq ?_
   refine T.region ?_
   refine TL.move hF rfl rfl ?_
   refine TL.makeFunc hF rfl rfl rfl ?_
   refine TL.call hF (filtered_fn (caps := [ptr b11]) (pW (out ++ [L[k]])) hrr (by omega) (fun x hx2 fg => wit2_fn hg1 (hsL x hx2) hsw (by rw [hle1]; omega) (hwo.row (by simp)) (b := b11) (wc := wc) (by simp [Value.cells]))) rfl rfl ?_
   rintro _ _ ⟨fa, fc, fg, rfl, hfo, rfl⟩
   have hfl : (L.filter (pW (out ++ [L[k]]))).length ≤ L.length := List.length_filter_le _ _
   have hsf : Sets (L.filter (pW (out ++ [L[k]]))) := fun x hx2 => hsL x (List.mem_filter.1 hx2).1
   have hnf : (L.filter (pW (out ++ [L[k]]))).Nodup := hnL.filter _
   have hfr := fewN_range (L.filter (pW (out ++ [L[k]])))
   have hstep : witP (fewN L) L (L[k] :: L.drop (k + 1)) out = if pW out L[k] = true ∧ fewN L ≤ ((out.length : Int) + 1) + fewN (L.filter (pW (out ++ [L[k]]))) then witP (fewN L) L (L.drop (k + 1)) (out ++ [L[k]]) else witP (fewN L) L (L.drop (k + 1)) out := rfl
   rw [hstep] at hw
   generalize L.filter (pW (out ++ [L[k]])) = R at hfo hfl hsf hnf hw hfr ⊢
   refine TL.assign hF rfl rfl ?_
   refine TL.nil ?_
   refine TQ.then_n ?_
   refine T.seq ?_
   refine T.region ?_
   refine TL.move hF rfl rfl ?_
   refine TL.makeFunc hF rfl rfl rfl ?_
   refine TL.callV hF (ContainsFunc_fn (caps := [ptr b10]) (fun y => !apartI L[k] y) (hou.row (by simp)) (by omega) (fun y hy => wit3_fn hrk (hso y hy) hg1 (b := b10) (by simp [Value.cells]))) rfl rfl ?_
   refine TL.not hF rfl rfl ?_
   refine TL.assign hF rfl rfl ?_
   refine TL.nil ?_
   refine TQ.then_n ?_
   refine T.seq ?_
   have hpw : pW out L[k] = !(out.any fun y => !apartI L[k] y) := rfl
   rcases hfit : (!(out.any fun y => !apartI L[k] y)) with _ | _
   ·refine T.draw ?_
    refine DR.stepV [_] rfl [(13, _, none)] rfl rfl ⟨⟨rfl, by kernel_rfl⟩, trivial⟩ (fun ext => TL.move hF rfl rfl TL.fin) ?_
    refine DR.stepV [_, _] rfl [(38, _, some 0)] rfl rfl ⟨⟨rfl, rfl, rfl⟩, trivial⟩ (fun ext => TL.move hF rfl rfl TL.fin) ?_
    refine DR.stepV [_, _, _] rfl [(11, _, none), (39, _, some 1)] rfl rfl ⟨⟨rfl, by kernel_rfl⟩, ⟨rfl, rfl, rfl⟩, trivial⟩ (fun ext => TL.off hF rfl rfl rfl (by first | exact hfit | rfl) rfl TL.fin) ?_
    refine DR.stepV [_, _, _, _] rfl [(40, _, some 2), (39, _, some 1)] rfl rfl ⟨⟨rfl, rfl, rfl⟩, ⟨rfl, rfl, rfl⟩, trivial⟩ (fun ext => TL.off hF rfl rfl rfl (by first | exact hfit | rfl) rfl TL.fin) ?_
    refine DR.stepV [_, _, _, _, _] rfl [(12, _, none), (39, _, some 1)] rfl rfl ⟨⟨rfl, by kernel_rfl⟩, ⟨rfl, rfl, rfl⟩, trivial⟩ (fun ext => TL.off hF rfl rfl rfl (by first | exact hfit | rfl) rfl TL.fin) ?_
    refine DR.stepV [_, _, _, _, _, _] rfl [(42, _, some 4), (39, _, some 1)] rfl rfl ⟨⟨rfl, rfl, rfl⟩, ⟨rfl, rfl, rfl⟩, trivial⟩ (fun ext => TL.off hF rfl rfl rfl (by first | exact hfit | rfl) rfl TL.fin) ?_
    refine DR.stepV [_, _, _, _, _, _, _] rfl [(41, _, some 3), (43, _, some 5), (39, _, some 1)] rfl rfl ⟨⟨rfl, rfl, rfl⟩, ⟨rfl, rfl, rfl⟩, ⟨rfl, rfl, rfl⟩, trivial⟩ (fun ext => TL.off hF rfl rfl rfl (by first | exact hfit | rfl) rfl TL.fin) ?_
    refine DR.stepV [_, _, _, _, _, _, _, _] rfl [(7, _, none), (39, _, some 1)] rfl rfl ⟨⟨rfl, by kernel_rfl⟩, ⟨rfl, rfl, rfl⟩, trivial⟩ (fun ext => TL.off hF rfl rfl rfl (by first | exact hfit | rfl) rfl TL.fin) ?_
    refine DR.done [(45, _), (44, _), (43, _), (42, _), (41, _), (40, _), (39, _), (38, _)] [_, _] mixed (by kernel_rfl) (by kernel_rfl) (by kernel_rfl) rfl rfl ?_
    refine TL.off hF rfl rfl rfl (by first | exact hfit | rfl) rfl ?_
    refine TL.pickF hF rfl (by first | exact hfit | rfl) rfl rfl ?_
    refine TL.nil ?_
    refine TQ.then_n ?_
    refine T.cond_f rfl rfl ?_
    refine T.skip ?_
    refine TQ.block_n ?_
    refine TQ.then_n ?_
    refine T.region ?_
    refine TL.add hF rfl rfl (by omega) (by omega) rfl ?_
    refine TL.move hF rfl rfl ?_
    refine TL.nil ?_
    rw [if_neg (fun h => by rw [hpw, hfit] at h; cases h.1)] at hw
    refine TQ.pick [4, 7] [_, _, _, _, _, _, _, _] rfl rfl rfl ?_
    refine TQ.round (k + 1, out, ua, uc, ug) ⟨by omega, by omega, hso, hou, hw⟩ (by dsimp only; omega) ⟨rfl, rfl, rfl, rfl, rfl, rfl, rfl, rfl, trivial⟩ rfl
   ·refine T.draw ?_
    refine DR.stepV [_] rfl [(13, _, none)] rfl rfl ⟨⟨rfl, by kernel_rfl⟩, trivial⟩ (fun ext => TL.move hF rfl rfl TL.fin) ?_
    refine DR.stepV [_, _] rfl [(38, _, some 0)] rfl rfl ⟨⟨rfl, rfl, rfl⟩, trivial⟩ (fun ext => TL.move hF rfl rfl TL.fin) ?_
    refine DR.stepV [_, _, _] rfl [(11, _, none), (39, _, some 1)] rfl rfl ⟨⟨rfl, by kernel_rfl⟩, ⟨rfl, rfl, rfl⟩, trivial⟩ (fun ext => TL.on rfl rfl rfl (by first | exact hfit | rfl) <| TL.load hF rfl (own_mem (cs := #[.slice wa (out ++ [L[k]]).length wc]) (e := 22) (fz := (0, 0)) (by simp [Value.cells]) rfl) rfl TL.fin) ?_
    refine DR.stepV [_, _, _, _] rfl [(40, _, some 2), (39, _, some 1)] rfl rfl ⟨⟨rfl, rfl, rfl⟩, ⟨rfl, rfl, rfl⟩, trivial⟩ (fun ext => TL.on rfl rfl rfl (by first | exact hfit | rfl) <| TL.len hF rfl rfl TL.fin) ?_
    refine DR.stepV [_, _, _, _, _] rfl [(12, _, none), (39, _, some 1)] rfl rfl ⟨⟨rfl, by kernel_rfl⟩, ⟨rfl, rfl, rfl⟩, trivial⟩ (fun ext => TL.on rfl rfl rfl (by first | exact hfit | rfl) <| TL.move hF rfl rfl TL.fin) ?_
    refine DR.stepV [_, _, _, _, _, _] rfl [(42, _, some 4), (39, _, some 1)] rfl rfl ⟨⟨rfl, rfl, rfl⟩, ⟨rfl, rfl, rfl⟩, trivial⟩ (fun ext => TL.on rfl rfl rfl (by first | exact hfit | rfl) <| TL.callV hF (fewest_own (ηr := [fg]) hg1 (hfo.row (by simp)) (by omega) hnf hsf) rfl rfl TL.fin) ?_
    refine DR.stepV [_, _, _, _, _, _, _] rfl [(41, _, some 3), (43, _, some 5), (39, _, some 1)] rfl rfl ⟨⟨rfl, rfl, rfl⟩, ⟨rfl, rfl, rfl⟩, ⟨rfl, rfl, rfl⟩, trivial⟩ (fun ext => TL.on rfl rfl rfl (by first | exact hfit | rfl) <| TL.add hF rfl rfl (by rw [hle1]; omega) (by rw [hle1]; omega) rfl TL.fin) ?_
    refine DR.stepV [_, _, _, _, _, _, _, _] rfl [(7, _, none), (39, _, some 1)] rfl rfl ⟨⟨rfl, by kernel_rfl⟩, ⟨rfl, rfl, rfl⟩, trivial⟩ (fun ext => TL.on rfl rfl rfl (by first | exact hfit | rfl) <| TL.move hF rfl rfl TL.fin) ?_
    refine DR.done [(45, _), (44, _), (43, _), (42, _), (41, _), (40, _), (39, _), (38, _)] [_, _] mixed (by kernel_rfl) (by kernel_rfl) (by kernel_rfl) rfl rfl ?_
    refine TL.on rfl rfl rfl (by first | exact hfit | rfl) ?_
    refine TL.bin hF rfl rfl rfl rfl ?_
    refine TL.pickT hF rfl (by first | exact hfit | rfl) rfl rfl ?_
    refine TL.nil ?_
    refine TQ.then_n ?_
    refine T.cond_d rfl (fun ht47 => ?_) (fun ht47 => ?_)
    ·refine T.region ?_
     refine TL.load hF rfl (own_mem (cs := #[.slice wa (out ++ [L[k]]).length wc]) (e := 22) (fz := (0, 0)) (by simp [Value.cells]) rfl) rfl ?_
     refine TL.assign hF rfl rfl ?_
     refine TL.nil ?_
     refine TQ.block_n ?_
     refine TQ.then_n ?_
     refine T.region ?_
     refine TL.add hF rfl rfl (by omega) (by omega) rfl ?_
     refine TL.move hF rfl rfl ?_
     refine TL.nil ?_
     rw [if_pos ⟨hpw.trans hfit, by have h : fewN L ≤ ((out ++ [L[k]]).length : Int) + fewN R := ht47; omega⟩] at hw
     refine TQ.pick [5, 7] [_, _, _, _, _, _, _, _] rfl rfl rfl ?_
     refine TQ.round (k + 1, out ++ [L[k]], wa, wc, wg) ⟨by omega, by omega, hsw, hwo, hw⟩ (by dsimp only; omega) ⟨rfl, rfl, rfl, rfl, rfl, rfl, rfl, rfl, trivial⟩ rfl
    ·refine T.skip ?_
     refine TQ.block_n ?_
     refine TQ.then_n ?_
     refine T.region ?_
     refine TL.add hF rfl rfl (by omega) (by omega) rfl ?_
     refine TL.move hF rfl rfl ?_
     refine TL.nil ?_
     rw [if_neg (fun h => by have h3 := h.2; have h4 : ¬ fewN L ≤ ((out ++ [L[k]]).length : Int) + fewN R := ht47; omega)] at hw
     refine TQ.pick [4, 7] [_, _, _, _, _, _, _, _] rfl rfl rfl ?_
     refine TQ.round (k + 1, out, ua, uc, ug) ⟨by omega, by omega, hso, hou, hw⟩ (by dsimp only; omega) ⟨rfl, rfl, rfl, rfl, rfl, rfl, rfl, rfl, trivial⟩ rfl
  ·refine T.exit ?_
   refine TQ.then_x ?_
   refine TQ.then_x ?_
   refine TQ.block_x ?_
   refine TQ.then_n ?_
   refine T.seq ?_
   refine T.region ?_
   refine TL.move hF rfl rfl ?_
   refine TL.assign hF rfl rfl ?_
   refine TL.storeI hF 1 rfl rfl rfl rfl (by decide) ?_
   refine TL.nil ?_
   refine TQ.then_n ?_
   refine T.ret ?_
   have hkn : k = L.length := by have h : ¬ (k : Int) < (L.length : Int) := ht23; omega
   rw [List.drop_of_length_le (by omega)] at hw
   refine TQ.thaw hz1 ?_
   refine TQ.retL [4] _ stop45 (stopped_nil _) rfl rfl rfl (own_mem (e := ERR) (fz := (0, 0)) (cs := #[.int .i64 0]) (by simp) rfl) ?_
   have e : witnessP cols l = (out, 0) := by unfold witnessP; rw [if_pos hk, ← hLe, hw]; rfl
   rw [e]; exact ⟨ua, uc, [og, sg, ug, _], rfl, hou.row (by simp), rfl⟩
 ·rintro _ _ ⟨he, rfl, rfl⟩
  refine TQ.then_p ?_
  refine TQ.panL [4] [.slice none 0 0] stop45 (stopped_err _) rfl rfl rfl (At.own' (i := 0) rfl rfl) ?_
  have e : witnessP cols l = ([], checkE cols l) := by unfold witnessP; rw [if_neg he]
  rw [e]; exact ⟨none, 0, [_], rfl, Row.none, rfl⟩
end Go.Proofs.YtfnalecnnmkgbaaDoor
/- The next ones, by the program. -/
namespace Go.Proofs.YtfnalecnnmkgbaaDoor
open Go.Sl
variable {S : Nat → Prop} {w0 : World} {η : Heap}
theorem next_fnI {x y : Int} (hx : 0 ≤ x ∧ x < 1024) (hy : 0 ≤ y ∧ y < 1024) : Rt Tryd.prog 117 [.agg #[.int .i64 x, .int .i64 y]].toArray S w0 η (fun v η' => v = .bool (partI x y) ∧ ∃ segs, η' = segs ++ η) := by
 obtain ⟨a, rfl, ha⟩ := nat_of hx
 obtain ⟨b, rfl, hb⟩ := nat_of hy
 exact next_fn a b ha hb
theorem matched_own {ηr η2 : Heap} {a b : Option Addr} {l m : List Int} {c d : Nat} (hg : Kinds S w0) (hx : Row S w0 [] a (ints l)) (hy : Row S w0 ηr b (ints m)) (hl : l.length < 2 ^ 62) (hml : m.length < 2 ^ 63) (hnd : m.Nodup) (hsl : Sets l) (hsm : Sets m) :
  Rt Tryd.prog 57 [.slice a l.length c, .slice b m.length d].toArray S w0 (ηr ++ η2) (fun v η' => v = .int .i64 (matchN l m : Nat) ∧ η' = ηr ++ η2) :=
 Rt.frame ηr rfl fun S' w1 hz hb => (matched_fn (c := c) (d := d) (hg.old hz) (hx.old hz) (hy.frz hz) hl hml hnd hsl hsm).mono fun v η' ⟨h1, h2⟩ => ⟨h1, by rw [h2]⟩
/-- What is not used. -/
def frB (m : List (Int × Bool)) (x : Int) : Bool := !(mget x m).getD false
theorem frB_put (m : List (Int × Bool)) (t x : Int) : frB (mput t true m) x = (frB m x && decide (x ≠ t)) := by
 unfold frB
 rw [mget_mput]
 by_cases e : x = t
 ·subst e; simp
 ·simp [e]
theorem filter_wo {l : List Int} {m : List (Int × Bool)} {t : Int} : l.filter (fun x => frB m x && decide (x ≠ t)) = wo (l.filter (frB m)) t := by
 unfold wo
 rw [List.filter_filter]
 congr 1; funext x; rw [Bool.and_comm]
/-- What stands in the table of next ones. -/
def NxM (l done : List Int) (m : List (Int × Int)) : Prop := (∀ x, x < done.length → mget (l.getD x 0) m = if 0 < done.getD x 0 then some (done.getD x 0) else none) ∧ ∀ p ∈ m, ∃ x, x < done.length ∧ p.1 = l.getD x 0
theorem getD_app {l : List Int} {t : Int} {x : Nat} : (l ++ [t]).getD x 0 = if x < l.length then l.getD x 0 else if x = l.length then t else 0 := by
 rw [List.getD_eq_getElem?_getD, List.getElem?_append]
 split
 ·rw [List.getD_eq_getElem?_getD]
 ·split
  ·rename_i h; subst h; simp
  ·rw [List.getElem?_eq_none (by simp; omega)]; rfl
theorem NxM.none {l done : List Int} {m : List (Int × Int)} (hn : l.Nodup) (h : NxM l done m) (hl : done.length < l.length) : mget (l.getD done.length 0) m = none := by
 rw [mget_none]
 intro p hp e
 obtain ⟨x, hx, he⟩ := h.2 p hp
 rw [he, getD_get (by omega), getD_get hl] at e
 exact List.pairwise_iff_getElem.1 hn x done.length (by omega) hl hx e
theorem NxM.step {l done : List Int} {m : List (Int × Int)} (hn : l.Nodup) (h : NxM l done m) (hl : done.length < l.length) {t : Int} (ht : 0 < t) : NxM l (done ++ [t]) (mput (l.getD done.length 0) t m) := by
 refine ⟨fun x hx => ?_, fun p hp => ?_⟩
 ·rw [List.length_append, List.length_singleton] at hx
  rw [mget_mput, getD_app]
  by_cases e : x < done.length
  ·rw [if_pos e, if_neg, h.1 x e]
   intro q
   rw [getD_get (by omega), getD_get hl] at q
   exact List.pairwise_iff_getElem.1 hn x done.length (by omega) hl e q
  ·have e2 : x = done.length := by omega
   subst e2
   rw [if_pos rfl, if_neg e, if_pos rfl, if_pos ht]
 ·have hk := List.mem_map_of_mem (f := (·.1)) hp
  rw [mput_keys, h.none hn hl] at hk
  simp only [Option.isSome_none, Bool.false_eq_true, if_false, List.mem_append, List.mem_singleton] at hk
  rcases hk with hk | hk
  ·obtain ⟨q, hq, he⟩ := List.mem_map.1 hk
   obtain ⟨x, hx, hxe⟩ := h.2 q hq
   exact ⟨x, by rw [List.length_append]; omega, by rw [← he, hxe]⟩
  ·exact ⟨done.length, by simp, hk⟩
theorem NxM.skip {l done : List Int} {m : List (Int × Int)} (hn : l.Nodup) (h : NxM l done m) (hl : done.length < l.length) : NxM l (done ++ [0]) m := by
 refine ⟨fun x hx => ?_, fun p hp => ?_⟩
 ·rw [List.length_append, List.length_singleton] at hx
  rw [getD_app]
  by_cases e : x < done.length
  ·rw [if_pos e, h.1 x e]
  ·have e2 : x = done.length := by omega
   subst e2
   rw [h.none hn hl, if_neg e, if_pos rfl]; rfl
 ·obtain ⟨x, hx, hxe⟩ := h.2 p hp
  exact ⟨x, by rw [List.length_append]; omega, hxe⟩
set_option maxHeartbeats 2000000 in
theorem free_fn {x : Int} {b4 mb2 ck : Nat} {m : List (Int × Bool)} {es : Array MapEntry} (hb : [(b4, Obj.cells #[.map (some mb2)] 103 (0, 0))] ∈ η) (hm : [(mb2, Obj.map es ck)] ∈ η) (hmo : MObj (Value.int .i64) Value.bool m es ck) :
  Rt Tryd.prog 75 [.int .i64 x, ptr b4].toArray S w0 η (fun v η' => v = .bool (frB m x) ∧ η' = η) := by
 have hF := open_wide
 refine Rt.of (fn := Tryd.f75) Tryd.func75 rfl rfl ?_
 refine T.seq ?_
 refine T.region ?_
 refine TL.assign hF rfl rfl ?_
 refine TL.nil ?_
 refine TQ.then_n ?_
 refine T.seq ?_
 refine T.region ?_
 refine TL.load hF rfl (own_mem hb rfl) rfl ?_
 refine TL.move hF rfl rfl ?_
 refine TL.lookupB hF (K := Value.int .i64) x rfl rfl hm hmo rfl ?_
 refine TL.not hF rfl rfl ?_
 refine TL.assign hF rfl rfl ?_
 refine TL.nil ?_
 refine TQ.then_n ?_
 refine T.ret ?_
 refine TQ.rets [3] _ rfl rfl rfl ?_
 exact ⟨rfl, rfl⟩
set_option maxHeartbeats 2000000 in
theorem free2_fn {x : Int} {b4 mb2 ck : Nat} {m : List (Int × Bool)} {es : Array MapEntry} {b5 b10 : Nat} {t : Int} (hb : [(b4, Obj.cells #[.map (some mb2)] 103 (0, 0))] ∈ η) (hm : [(mb2, Obj.map es ck)] ∈ η) (hb5 : [(b5, Obj.cells #[.func (.func 75) #[] #[ptr b4]] 68 (0, 0))] ∈ η) (hb10 : [(b10, Obj.cells #[.int .i64 t] 3 (0, 0))] ∈ η) (hmo : MObj (Value.int .i64) Value.bool m es ck) :
  Rt Tryd.prog 76 [.int .i64 x, ptr b5, ptr b10].toArray S w0 η (fun v η' => v = .bool (frB m x && decide (x ≠ t)) ∧ η' = η) := by
 have hF := open_wide
 refine Rt.of (fn := Tryd.f76) Tryd.func76 rfl rfl ?_
 refine T.seq ?_
 refine T.region ?_
 refine TL.assign hF rfl rfl ?_
 refine TL.nil ?_
 refine TQ.then_n ?_
 refine T.seq ?_
 refine T.region ?_
 refine TL.load hF rfl (own_mem hb5 rfl) rfl ?_
 refine TL.move hF rfl rfl ?_
 refine TL.callV hF (free_fn hb hm hmo) rfl rfl ?_
 refine TL.move hF rfl rfl ?_
 refine TL.gb (t := 8) rfl (fun g1_8 => ?_) (fun g1_8 => ?_)
 ·refine TL.on rfl rfl rfl g1_8 ?_
  refine TL.move hF rfl rfl ?_
  refine TL.on rfl rfl rfl g1_8 ?_
  refine TL.load hF rfl (own_mem hb10 rfl) rfl ?_
  refine TL.on rfl rfl rfl g1_8 ?_
  refine TL.bin hF rfl rfl rfl rfl ?_
  refine TL.pickT hF rfl g1_8 rfl rfl ?_
  refine TL.assign hF rfl rfl ?_
  refine TL.nil ?_
  refine TQ.then_n ?_
  refine T.ret ?_
  refine TQ.rets [4] _ rfl rfl rfl ?_
  exact ⟨by rw [g1_8]; rfl, rfl⟩
 ·refine TL.off hF rfl rfl rfl g1_8 rfl ?_
  refine TL.off hF rfl rfl rfl g1_8 rfl ?_
  refine TL.off hF rfl rfl rfl g1_8 rfl ?_
  refine TL.pickF hF rfl g1_8 rfl rfl ?_
  refine TL.assign hF rfl rfl ?_
  refine TL.nil ?_
  refine TQ.then_n ?_
  refine T.ret ?_
  refine TQ.rets [4] _ rfl rfl rfl ?_
  exact ⟨by rw [g1_8]; rfl, rfl⟩
theorem filter_wo_av {l av : List Int} {m : List (Int × Bool)} {t : Int} (h : l.filter (frB m) = av) : l.filter (fun x => frB m x && decide (x ≠ t)) = wo av t := by rw [filter_wo, h]
set_option maxHeartbeats 4000000 in
theorem nexts_fn {a : Option Addr} {l : List Int} {c : Nat} (hg : Kinds S w0) (hx : Row S w0 [] a (ints l)) (hl : l.length < 4294967296) (hc : l.length ≤ c) (hpos : ∀ x ∈ l, 1 ≤ x ∧ x < 1024) (hnd : l.Nodup) :
  Rt Tryd.prog 62 [.slice a l.length c].toArray S w0 η (fun v η' => ∃ mb mp es ck, v = .map (some mb) ∧ MObj KS (Value.int .i64) mp es ck ∧ NxM l (nextsS l) mp ∧ η' = [(mb, Obj.map es ck)] :: η) := by
 have hsl := pos_sets hpos
 have hF := open_wide
 refine Rt.of (fn := Tryd.f62) Tryd.func62 rfl rfl ?_
 refine T.seq ?_
 refine T.region ?_
 refine TL.assign hF rfl rfl ?_
 refine TL.nil ?_
 refine TQ.then_n ?_
 refine T.seq ?_
 refine T.region ?_
 refine TL.makeMap hF rfl (fun mb1 => ?_)
 refine TL.makeMap hF rfl (fun mb2 => ?_)
 refine TL.alloc hF rfl (fun b4 => ?_)
 refine TL.assign hF rfl rfl ?_
 refine TL.storeI hF 0 rfl rfl rfl rfl (by simp [Value.cells]) ?_
 refine TL.nil ?_
 refine TQ.then_n ?_
 refine T.seq ?_
 refine T.region ?_
 refine TL.makeFunc hF rfl rfl rfl ?_
 refine TL.alloc hF rfl (fun b5 => ?_)
 refine TL.storeI hF 0 rfl rfl rfl rfl (by simp [Value.cells]) ?_
 refine TL.nil ?_
 refine TQ.then_n ?_
 refine T.seq ?_
 refine T.region ?_
 refine TL.move hF rfl rfl ?_
 refine TL.move hF rfl rfl ?_
 have hml := matchN_le l l
 refine TL.callV hF (matched_fn hg hx.ro hx.ro (by omega) (by omega) hnd hsl hsl) rfl rfl ?_
 refine TL.assign hF rfl rfl ?_
 refine TL.nil ?_
 refine TQ.then_n ?_
 refine T.seq ?_
 refine T.seq ?_
 refine T.region ?_
 refine TL.move hF rfl rfl ?_
 refine TL.len hF rfl rfl ?_
 refine TL.move hF rfl rfl ?_
 refine TL.nil ?_
 refine TQ.then_n ?_
 refine T.block ?_
 refine T.heap (η' := [(b5, Obj.cells #[.func (.func 75) #[] #[ptr b4]] 68 (0, 0))] :: [(b4, Obj.cells #[.map (some mb2)] 103 (0, 0))] :: [(mb2, Obj.map #[] 0)] :: [(mb1, Obj.map #[] 0)] :: η) (by simp [Value.cells]) ?_
 refine T.pick [1, 2, 0, 3] [_, _, _, _] rfl rfl rfl ?_
 refine T.loop (ι := Nat × List Int × List Int × Int × List (Int × Int) × Array MapEntry × Nat × List (Int × Bool) × Array MapEntry × Nat) (fun z => match z with | (i, done, av, left, m1, es1, ck1, m2, es2, ck2) => i ≤ l.length ∧ done.length = i ∧ ((matchN l l : Nat) : Int) - i ≤ left ∧ left ≤ ((matchN l l : Nat) : Int) ∧ l.filter (frB m2) = av ∧ MObj KS (Value.int .i64) m1 es1 ck1 ∧ MObj (Value.int .i64) Value.bool m2 es2 ck2 ∧ NxM l done m1 ∧ nextsS l = done ++ nextsG (l.drop i) av left) (fun z => match z with | (i, done, av, left, m1, es1, ck1, m2, es2, ck2) => [(0, .slice a l.length c), (3, .map (some mb1)), (4, ptr b4), (5, ptr b5), (6, .int .i64 left), (18, .slice a l.length c), (19, .int .i64 (l.length : Int)), (20, .int .i64 (i : Int))]) (fun z => match z with | (i, done, av, left, m1, es1, ck1, m2, es2, ck2) => [(b4, Obj.cells #[.map (some mb2)] 103 (0, 0))] :: [(mb2, Obj.map es2 ck2)] :: [(b5, Obj.cells #[.func (.func 75) #[] #[ptr b4]] 68 (0, 0))] :: [(mb1, Obj.map es1 ck1)] :: η) (fun z => l.length - z.1) (0, [], l, ((matchN l l : Nat) : Int), [], #[], 0, [], #[], 0) ⟨Nat.zero_le _, rfl, by omega, by omega, List.filter_eq_self.2 (fun _ _ => rfl), MObj.nil _ _, MObj.nil _ _, ⟨fun x hx2 => by simp at hx2, fun p hp => by simp at hp⟩, rfl⟩ ⟨rfl, rfl, rfl, rfl, rfl, rfl, rfl, rfl, trivial⟩ rfl ?_
 rintro ⟨i, done, av, left, m1, es1, ck1, m2, es2, ck2⟩ ⟨hi, hdl, hle0, hle1, hav, hm1, hm2, hnm, hnx⟩
 refine T.seq ?_
 refine T.region ?_
 refine TL.bin hF rfl rfl rfl rfl ?_
 refine TL.nil ?_
 refine TQ.then_n ?_
 refine T.seq ?_
 first | refine T.cond_d rfl (fun ht21 => ?_) (fun ht21 => ?_) | refine T.cond _ rfl (fun ht21 => ?_) (fun ht21 => ?_)
 ·refine T.skip ?_
  refine TQ.then_n ?_
  refine T.seq ?_
  refine T.block ?_
  refine T.seq ?_
  refine T.region ?_
  refine TL.move hF rfl rfl ?_
  have hil : i < l.length := by have h : (i : Int) < (l.length : Int) := ht21; omega
  have hdr : l.drop i = l[i] :: l.drop (i + 1) := drop_step hil
  have hts : Row S w0 [] (if c = i + 1 then a else a.map (·.add ((i + 1) * 1))) (ints (l.drop (i + 1))) := row_tail hx (by omega) hc
  have hdl2 : (l.drop (i + 1)).length = l.length - (i + 1) := List.length_drop
  rw [hdr] at hnx
  refine TL.indexAddr hF rfl rfl (hx.adi (i := i) (by simp; omega)) (by omega) (by omega) rfl ?_
  refine TL.load hF rfl (hx.ro.int (i := i) hil) rfl ?_
  refine TL.assign hF rfl rfl ?_
  refine TL.assign hF rfl rfl ?_
  refine TL.nil ?_
  refine TQ.then_n ?_
  refine T.seq ?_
  refine T.region ?_
  refine TL.move hF rfl rfl ?_
  refine TL.load hF rfl (own_mem (cs := #[.func (.func 75) #[] #[ptr b4]]) (e := 68) (fz := (0, 0)) (by simp) rfl) rfl ?_
  refine TL.call hF (filtered_fn (caps := [ptr b4]) (frB m2) hx (by omega) (fun x hx2 fg => free_fn (b4 := b4) (mb2 := mb2) (by simp) (by simp) hm2)) rfl rfl ?_
  rintro _ _ ⟨ca, cc, cg, rfl, hco, rfl⟩
  have hal : (l.filter (frB m2)).length ≤ l.length := List.length_filter_le _ _
  have hsa : ∀ x ∈ l.filter (frB m2), 1 ≤ x ∧ x < 1024 := fun x hx2 => hpos x (List.mem_filter.1 hx2).1
  have hna : (l.filter (frB m2)).Nodup := hnd.filter _
  rw [hav] at hco hal hsa hna ⊢
  refine TL.len hF rfl rfl ?_
  refine TL.move hF rfl rfl ?_
  refine TL.nil ?_
  refine TQ.then_n ?_
  refine T.block ?_
  refine T.loop (ι := Nat) (fun j => j ≤ av.length ∧ ∀ x ∈ av.take j, okP (l.drop (i + 1)) av l[i] left x = false) (fun j => [(0, .slice a l.length c), (3, .map (some mb1)), (4, ptr b4), (5, ptr b5), (6, .int .i64 left), (18, .slice a l.length c), (19, .int .i64 (l.length : Int)), (20, .int .i64 (i : Int)), (7, .int .i64 (i : Int)), (8, .int .i64 l[i]), (27, .slice ca av.length cc), (28, .int .i64 (av.length : Int)), (29, .int .i64 (j : Int))]) (fun _ => cg :: [(b4, Obj.cells #[.map (some mb2)] 103 (0, 0))] :: [(mb2, Obj.map es2 ck2)] :: [(b5, Obj.cells #[.func (.func 75) #[] #[ptr b4]] 68 (0, 0))] :: [(mb1, Obj.map es1 ck1)] :: η) (fun j => av.length - j) 0 ⟨Nat.zero_le _, by simp⟩ ⟨rfl, rfl, rfl, rfl, rfl, rfl, rfl, rfl, rfl, rfl, rfl, rfl, rfl, trivial⟩ rfl ?_
  rintro j ⟨hj, hno⟩
  refine T.seq ?_
  refine T.region ?_
  refine TL.bin hF rfl rfl rfl rfl ?_
  refine TL.nil ?_
  refine TQ.then_n ?_
  refine T.seq ?_
  first | refine T.cond_d rfl (fun ht30 => ?_) (fun ht30 => ?_) | refine T.cond _ rfl (fun ht30 => ?_) (fun ht30 => ?_)
  ·refine T.skip ?_
   refine TQ.then_n ?_
   refine T.seq ?_
   refine T.block ?_
   refine T.seq ?_
   refine T.region ?_
   have hjl : j < av.length := by have h : (j : Int) < (av.length : Int) := ht30; omega
   have hrj := hsa _ (List.getElem_mem hjl)
   have hri := hpos _ (List.getElem_mem hil)
   refine TL.indexAddr hF rfl rfl ((hco.row (η := [cg]) (S := S) (w0 := w0) List.mem_cons_self).adi (i := j) (by simp; omega)) (by omega) (by omega) rfl ?_
   refine TL.load hF rfl ((hco.row (by simp)).int (i := j) hjl) rfl ?_
   refine TL.alloc hF rfl (fun b10 => ?_)
   refine TL.storeI hF 0 rfl rfl rfl rfl (by simp [Value.cells]) ?_
   refine TL.nil ?_
   refine TQ.then_n ?_
   refine T.seq ?_
   refine T.seq ?_
   refine T.region ?_
   refine TL.indexAddrA hF rfl rfl (by decide) (by decide) rfl ?_
   refine TL.fieldAddr hF rfl rfl ?_
   refine TL.load hF rfl (hg.at (o := 0) (by omega)) rfl ?_
   refine TL.move hF rfl rfl ?_
   refine TL.load hF rfl (own_mem (cs := #[.int .i64 av[j]]) (e := 3) (fz := (0, 0)) (by simp [Value.cells]) rfl) rfl ?_
   refine TL.build hF rfl (r := .agg #[.int .i64 l[i], .int .i64 av[j]]) (fun w => by kernel_rfl) rfl ?_
   refine TL.call hF (next_fnI (by omega) (by omega)) rfl rfl ?_
   rintro _ _ ⟨rfl, segs, rfl⟩
   refine TL.hsub _ (List.sublist_append_right _ _) ?_
   refine TL.not hF rfl rfl ?_
   refine TL.nil ?_
   refine TQ.then_n ?_
   refine T.cond _ rfl (fun ht40 => ?_) (fun ht40 => ?_)
   ·refine T.exit ?_
    refine TQ.then_x ?_
    refine TQ.block_x ?_
    refine TQ.then_n ?_
    refine T.region ?_
    refine TL.add hF rfl rfl (by omega) (by omega) rfl ?_
    refine TL.move hF rfl rfl ?_
    refine TL.nil ?_
    refine TQ.pop ?_
    refine TQ.round (j + 1) ⟨by omega, fun x hx2 => ?_⟩ (by omega) ⟨rfl, rfl, rfl, rfl, rfl, rfl, rfl, rfl, rfl, rfl, rfl, rfl, rfl, trivial⟩ rfl
    rw [List.take_succ_eq_append_getElem hjl] at hx2
    rcases List.mem_append.1 hx2 with h | h
    ·exact hno x h
    ·rw [List.mem_singleton.1 h]; unfold okP
     have hpt : partI l[i] av[j] = false := by simpa using ht40
     rw [hpt]; rfl
   ·refine T.skip ?_
    refine TQ.then_n ?_
    refine T.seq ?_
    refine T.region ?_
    refine TL.move hF rfl rfl ?_
    refine TL.makeFunc hF rfl rfl rfl ?_
    refine TL.call hF (filtered_fn (caps := [ptr b5, ptr b10]) (fun x => frB m2 x && decide (x ≠ av[j])) hx (by omega) (fun x hx2 fg => free2_fn (b4 := b4) (mb2 := mb2) (b5 := b5) (b10 := b10) (t := av[j]) (by simp) (by simp) (by simp) (by simp [Value.cells]) hm2)) rfl rfl ?_
    rintro _ _ ⟨fa, fc, fg, rfl, hfo, rfl⟩
    have hfw : l.filter (fun x => frB m2 x && decide (x ≠ av[j])) = wo av av[j] := by rw [filter_wo, hav]
    have hwl := wo_len av av[j]
    rw [hfw] at hfo ⊢
    have hsw : Sets (wo av av[j]) := fun x hx2 => by have := hsa x (List.mem_filter.1 hx2).1; omega
    have hnw : (wo av av[j]).Nodup := hna.filter _
    refine TL.assign hF rfl rfl ?_
    refine TL.nil ?_
    refine TQ.then_n ?_
    refine T.seq ?_
    refine T.region ?_
    refine TL.move hF rfl rfl ?_
    refine TL.move hF rfl rfl ?_
    refine TL.add hF rfl rfl (by omega) (by omega) rfl ?_
    refine TL.slice hF (i := i + 1) (j := l.length) rfl rfl rfl (by omega) (by omega) rfl ?_
    refine TL.move hF rfl rfl ?_
    have hmo := matched_own (ηr := [fg]) (η2 := [(b10, Obj.cells #[.int .i64 av[j]] 3 (0, 0))] :: cg :: [(b4, Obj.cells #[.map (some mb2)] 103 (0, 0))] :: [(mb2, Obj.map es2 ck2)] :: [(b5, Obj.cells #[.func (.func 75) #[] #[ptr b4]] 68 (0, 0))] :: [(mb1, Obj.map es1 ck1)] :: η) (c := c - (i + 1)) (d := fc) hg hts (hfo.row (η := [fg]) (by simp)) (by omega) (by omega) hnw (hsl.drop (i + 1)) hsw
    rw [hdl2] at hmo
    have hmle := matchN_le (l.drop (i + 1)) (wo av av[j])
    refine TL.callV hF hmo rfl rfl ?_
    refine TL.move hF rfl rfl ?_
    refine TL.sub hF rfl rfl (by omega) (by omega) rfl ?_
    refine TL.bin hF rfl rfl rfl rfl ?_
    refine TL.nil ?_
    refine TQ.then_n ?_
    refine T.cond_d rfl (fun ht52 => ?_) (fun ht52 => ?_)
    ·refine T.seq ?_
     refine T.drawH 7 mixed ?_
     refine DH.pure (i := 0) [(3, _, none)] rfl rfl rfl rfl ⟨⟨rfl, by kernel_rfl⟩, trivial⟩ (fun _ ext => TL.move hF rfl rfl TL.fin) ?_
     refine DH.pure (i := 1) [(8, _, none)] rfl rfl rfl rfl ⟨⟨rfl, by kernel_rfl⟩, trivial⟩ (fun _ ext => TL.move hF rfl rfl TL.fin) ?_
     refine DH.pure (i := 2) [(54, _, some 1)] rfl rfl rfl rfl ⟨⟨rfl, rfl, rfl⟩, trivial⟩ (fun _ ext => TL.build hF rfl (r := KS l[i]) (fun w => by kernel_rfl) rfl TL.fin) ?_
     refine DH.read (i := 3) [(4, _, none)] rfl rfl rfl rfl ⟨⟨rfl, by kernel_rfl⟩, trivial⟩ (fun ext => TL.load hF rfl (own_mem (cs := #[.map (some mb2)]) (e := 103) (fz := (0, 0)) (by simp [Value.cells]) rfl) rfl TL.fin) ?_
     refine DH.read (i := 4) [(10, _, none)] rfl rfl rfl rfl ⟨⟨rfl, by kernel_rfl⟩, trivial⟩ (fun ext => TL.load hF rfl (own_mem (cs := #[.int .i64 av[j]]) (e := 3) (fz := (0, 0)) (by simp [Value.cells]) rfl) rfl TL.fin) ?_
     refine DH.read (i := 5) [(10, _, none)] rfl rfl rfl rfl ⟨⟨rfl, by kernel_rfl⟩, trivial⟩ (fun ext => TL.load hF rfl (own_mem (cs := #[.int .i64 av[j]]) (e := 3) (fz := (0, 0)) (by simp [Value.cells]) rfl) rfl TL.fin) ?_
     refine DH.k1 (by kernel_rfl) (by kernel_rfl) (by kernel_rfl) (by kernel_rfl) (HBK.mk (h := 6) [3, 4] [(53, _, some 0), (55, _, some 2), (58, _, some 5)] rfl rfl rfl ⟨⟨rfl, rfl, rfl⟩, ⟨rfl, rfl, rfl⟩, ⟨rfl, rfl, rfl⟩, trivial⟩ (by kernel_rfl) (fun ext => ?_))
     refine TL.mapUpdate hF 6 (Value.int .i64) l[i] av[j] rfl rfl rfl rfl hm1 (fun es13 clock13 hm13 => ?_)
     refine TL.finKN ⟨⟨_, rfl, _, _, [(4, _, none)], rfl, rfl, ⟨⟨rfl, by kernel_rfl⟩, trivial⟩, fun ext => TL.load hF rfl (own_mem (cs := #[.map (some mb2)]) (e := 103) (fz := (0, 0)) (by simp [Value.cells]) rfl) rfl TL.fin⟩, ⟨_, rfl, _, _, [(10, _, none)], rfl, rfl, ⟨⟨rfl, by kernel_rfl⟩, trivial⟩, fun ext => TL.load hF rfl (own_mem (cs := #[.int .i64 av[j]]) (e := 3) (fz := (0, 0)) (by simp [Value.cells]) rfl) rfl TL.fin⟩, trivial⟩ ?_
     refine DH.done [(58, _), (57, _), (56, _), (55, _), (54, _), (53, _)] [_] (by kernel_rfl) (by kernel_rfl) (by kernel_rfl) (by kernel_rfl) rfl rfl ?_
     refine TL.mapUpdate hF 4 Value.bool av[j] true rfl rfl rfl rfl hm2 (fun es2b ck2b hm2b => ?_)
     refine TL.nil ?_
     refine TQ.then_n ?_
     refine T.seq ?_
     refine T.region ?_
     refine TL.move hF rfl rfl ?_
     refine TL.sub hF rfl rfl (by omega) (by omega) rfl ?_
     refine TL.assign hF rfl rfl ?_
     refine TL.nil ?_
     refine TQ.then_n ?_
     refine T.exit ?_
     refine TQ.block_o rfl ?_
     refine TQ.then_x ?_
     refine TQ.then_x ?_
     refine TQ.block_x ?_
     refine TQ.block_n ?_
     refine TQ.then_n ?_
     refine T.region ?_
     refine TL.add hF rfl rfl (by omega) (by omega) rfl ?_
     refine TL.move hF rfl rfl ?_
     refine TL.nil ?_
     have hpt : partI l[i] av[j] = true := by simpa using ht40
     have hok : okP (l.drop (i + 1)) av l[i] left av[j] = true := by
      unfold okP; rw [hpt, decide_eq_true (show _ from ht52)]; rfl
     have hfind : av.find? (okP (l.drop (i + 1)) av l[i] left) = some av[j] := by
      rw [List.find?_eq_some_iff_getElem]
      refine ⟨hok, j, hjl, rfl, fun k hk => ?_⟩
      rw [hno _ (List.mem_take_iff_getElem.2 ⟨k, by omega, rfl⟩)]; rfl
     unfold nextsG at hnx
     rw [hfind] at hnx
     have hgi : l.getD done.length 0 = l[i] := by rw [hdl]; exact getD_get hil
     have hst := hnm.step hnd (by omega) (t := av[j]) (by omega)
     rw [hgi] at hst
     refine TQ.pick [3, 4, 5, 6] [_, _, _, _, _, _, _] rfl rfl rfl ?_
     refine TQ.round (i + 1, done ++ [av[j]], wo av av[j], left - 1, mput l[i] av[j] m1, es13, clock13, mput av[j] true m2, es2b, ck2b) ⟨by omega, by simp [hdl], by omega, by omega, ?_, hm13, hm2b, hst, ?_⟩ (by dsimp only; omega) ⟨rfl, rfl, rfl, rfl, rfl, rfl, rfl, rfl, trivial⟩ rfl
     ·rw [← filter_wo_av hav]; congr 1; funext x; exact frB_put m2 av[j] x
     ·rw [hnx, List.append_assoc]; rfl
    ·refine T.skip ?_
     refine TQ.block_n ?_
     refine TQ.then_n ?_
     refine T.region ?_
     refine TL.add hF rfl rfl (by omega) (by omega) rfl ?_
     refine TL.move hF rfl rfl ?_
     refine TL.nil ?_
     refine TQ.pop ?_
     refine TQ.pop ?_
     refine TQ.round (j + 1) ⟨by omega, fun x hx2 => ?_⟩ (by omega) ⟨rfl, rfl, rfl, rfl, rfl, rfl, rfl, rfl, rfl, rfl, rfl, rfl, rfl, trivial⟩ rfl
     rw [List.take_succ_eq_append_getElem hjl] at hx2
     rcases List.mem_append.1 hx2 with h | h
     ·exact hno x h
     ·rw [List.mem_singleton.1 h]; unfold okP; rw [decide_eq_false (show ¬ _ from ht52), Bool.and_false]
  ·refine T.exit ?_
   refine TQ.then_x ?_
   refine TQ.then_x ?_
   refine TQ.block_x ?_
   refine TQ.block_n ?_
   refine TQ.then_n ?_
   refine T.region ?_
   refine TL.add hF rfl rfl (by omega) (by omega) rfl ?_
   refine TL.move hF rfl rfl ?_
   refine TL.nil ?_
   have hfind : av.find? (okP (l.drop (i + 1)) av l[i] left) = none := by
    rw [List.find?_eq_none]
    intro x hx2
    rw [hno x (by rw [List.take_of_length_le (by have h : ¬ (j : Int) < (av.length : Int) := ht30; omega)]; exact hx2)]; simp
   unfold nextsG at hnx
   rw [hfind] at hnx
   refine TQ.pop ?_
   refine TQ.round (i + 1, done ++ [0], av, left, m1, es1, ck1, m2, es2, ck2) ⟨by omega, by simp [hdl], by omega, by omega, hav, hm1, hm2, hnm.skip hnd (by omega), ?_⟩ (by dsimp only; omega) ⟨rfl, rfl, rfl, rfl, rfl, rfl, rfl, rfl, trivial⟩ rfl
   rw [hnx, List.append_assoc]; rfl
 ·refine T.exit ?_
  refine TQ.then_x ?_
  refine TQ.then_x ?_
  refine TQ.block_x ?_
  refine TQ.then_n ?_
  refine T.seq ?_
  refine T.region ?_
  refine TL.move hF rfl rfl ?_
  refine TL.assign hF rfl rfl ?_
  refine TL.nil ?_
  refine TQ.then_n ?_
  refine T.ret ?_
  have hin : i = l.length := by have h : ¬ (i : Int) < (l.length : Int) := ht21; omega
  subst hin
  rw [List.drop_length] at hnx
  have hdn : nextsS l = done := by rw [hnx]; simp [nextsG]
  refine TQ.pick [3] [_, _, _, _] rfl rfl rfl ?_
  refine TQ.rets [2] _ rfl rfl rfl ?_
  rw [hdn]
  exact ⟨mb1, m1, es1, ck1, rfl, hm1, hnm, rfl⟩
end Go.Proofs.YtfnalecnnmkgbaaDoor
/- The cover that is made, by the program. -/
namespace Go.Proofs.YtfnalecnnmkgbaaDoor
open Go.Sl
variable {S : Nat → Prop} {w0 : World} {η : Heap}
theorem done_lenI {β : Type} {m : List (Int × β)} {dn : List Int} (hnd : dn.Nodup) (hsub : ∀ x ∈ dn, x ∈ m.map (·.1)) {p : Int × β} (hp : p ∈ m) (hn : p.1 ∉ dn) : dn.length < m.length := by
 have h := (List.nodup_cons.2 ⟨hn, hnd⟩).length_le_of_subset (l₂ := m.map (·.1)) (fun x hx => by
  rcases List.mem_cons.1 hx with rfl | hx
  ·exact List.mem_map_of_mem hp
  ·exact hsub x hx)
 rw [List.length_cons, List.length_map] at h; omega
theorem nxm_len {l done : List Int} {m : List (Int × Int)} (h : NxM l done m) (hd : done.length ≤ l.length) (hn : (m.map (·.1)).Nodup) : m.length ≤ l.length := by
 have h1 := hn.length_le_of_subset (l₂ := l) (fun x hx => by
  obtain ⟨p, hp, rfl⟩ := List.mem_map.1 hx
  obtain ⟨y, hy, he⟩ := h.2 p hp
  rw [he, getD_get (by omega)]; exact List.getElem_mem _)
 rwa [List.length_map] at h1
theorem nxm_vals {l done : List Int} {m : List (Int × Int)} (h : NxM l done m) (hn : (m.map (·.1)).Nodup) {f : Int} (hf : 1 ≤ f) : (∃ p ∈ m, p.2 = f) ↔ f ∈ done := by
 constructor
 ·rintro ⟨p, hp, rfl⟩
  obtain ⟨y, hy, he⟩ := h.2 p hp
  have h1 := h.1 y hy
  rw [← he, mget_of_mem hn hp] at h1
  split at h1
  ·have h2 : p.2 = done.getD y 0 := by simpa using h1
   rw [h2, getD_get hy]; exact List.getElem_mem _
  ·cases h1
 ·intro hm
  obtain ⟨y, hy, he⟩ := List.getElem_of_mem hm
  have h1 := h.1 y hy
  rw [getD_get hy, he, if_pos (by omega)] at h1
  exact ⟨_, mget_mem h1, rfl⟩
theorem lookI {F : Fence} {P : Program} {n : Nat} {Q : Exit → Act → World → Prop} {ds : List Deferred} {σ : Env} {ops : Array Oper} {rest : List Oper} {d : Nat} {ty : TypeId} {pos : String} {af : Array Edge} (hF : Sl.Open F) {t kt et : TypeId} [Und P t (.map kt et)] {sz bt : Nat} [Inf P et (.int .i64 0) sz bt] {α : Type} [DecidableEq α] {K : α → Value} [MKey P kt K] {m : List (α × Int)} {es : Array MapEntry} {clock b : Nat} (k : α)
  {x y : Operand} (hx : ev σ x = some (.map (some b))) (hy : ev σ y = some (K k)) (hb : [(b, .map es clock)] ∈ η) (hm : MObj K (Value.int .i64) m es clock) (hn : Nat.blt d n = true)
  (h : TL F P S w0 n ops Q rest ds ((d, .tuple #[.int .i64 ((mget k m).getD 0), .bool (mget k m).isSome]) :: σ) η) : TL F P S w0 n ops Q (⟨some d, .lookup t x y true, ty, pos, af, none⟩ :: rest) ds σ η :=
 TL.lookupOk hF (Value.int .i64) k hx hy hb hm hn (by
  have e : (mget k m).elim (Value.int .i64 0) (Value.int .i64) = .int .i64 ((mget k m).getD 0) := by cases mget k m <;> rfl
  rw [e]; exact h)
theorem whereI_get {l : List Int} {n : Int} {p : Nat} (h : whereI l n = (p : Int)) : l.getD p 0 = n := by
 unfold whereI at h
 cases hf : l.findIdx? (fun x => decide (x = n)) with
 | none => rw [hf] at h; have h : (-1 : Int) = p := h; omega
 | some i =>
  rw [hf] at h
  have h : (i : Int) = p := h
  have e : i = p := by omega
  subst e
  rw [List.findIdx?_eq_some_iff_getElem] at hf
  obtain ⟨hi, he, _⟩ := hf
  rw [getD_get hi]; exact of_decide_eq_true he
set_option maxHeartbeats 2000000 in
theorem chains_fn {a : Option Addr} {L : List Int} {c : Nat} (hg : Kinds S w0) (hx : Row S w0 [] a (ints L)) (hR : RisOk L) (hl : L.length < 4294967296) (hc : L.length ≤ c) :
  Rt Tryd.prog 37 [.slice a L.length c].toArray S w0 η (fun v η' => ∃ oa oc outs og, v = .slice oa outs.length oc ∧ OL 22 (.slice oa outs.length oc) outs og ∧ outs.map (fun t => t.1.2.1) = chainsR L ∧ (∀ t ∈ outs, t.1.2.1.length ≤ 25) ∧ η' = og :: (outs.reverse.map (·.2) ++ η)) := by
 have hF := open_wide
 refine Rt.of (fn := Tryd.f37) Tryd.func37 rfl rfl ?_
 refine T.seq ?_
 refine T.region ?_
 refine TL.assign hF rfl rfl ?_
 refine TL.nil ?_
 refine TQ.then_n ?_
 refine T.seq ?_
 refine T.region ?_
 refine TL.move hF rfl rfl ?_
 refine TL.call hF (nexts_fn hg hx (by omega) hc hR.pos hR.up.nodup) rfl rfl ?_
 rintro _ _ ⟨mb, mp, es, ck, rfl, hmo, hnm, rfl⟩
 have hnl := nextsS_len L
 have hmpl := nxm_len hnm (by omega) hmo.nd
 refine TL.assign hF rfl rfl ?_
 refine TL.nil ?_
 refine TQ.then_n ?_
 refine T.seq ?_
 refine T.region ?_
 refine TL.assign hF rfl rfl ?_
 refine TL.nil ?_
 refine TQ.then_n ?_
 refine T.seq ?_
 refine T.seq ?_
 refine T.region ?_
 refine TL.move hF rfl rfl ?_
 refine TL.range hF rfl List.mem_cons_self rfl (fun b15 => ?_)
 refine TL.nil ?_
 refine TQ.then_n ?_
 refine T.block ?_
 refine T.hnil ?_
 refine T.loop (ι := Array Nat × List Int × List Int × Option Addr × Nat × Seg) (fun z => match z with | (seen, dn, sec, sa, sc, sg) => ItOk mp es seen dn ∧ dn.Nodup ∧ (∀ x ∈ dn, x ∈ mp.map (·.1)) ∧ sec.length = dn.length ∧ (∀ x, x ∈ sec ↔ ∃ p ∈ mp, p.1 ∈ dn ∧ p.2 = x) ∧ OSl 3 1 (.slice sa sec.length sc) sec.length (ints sec) sg) (fun z => match z with | (seen, dn, sec, sa, sc, sg) => [(0, .slice a L.length c), (2, .slice none 0 0), (3, .map (some mb)), (4, .slice sa sec.length sc), (15, ptr b15)]) (fun z => match z with | (seen, dn, sec, sa, sc, sg) => sg :: [(b15, Obj.mapIter (some mb) ck seen ck)] :: [(mb, Obj.map es ck)] :: η) (fun z => mp.length - z.2.1.length) (#[], [], [], none, 0, []) ⟨ItOk.start mp es, List.nodup_nil, by simp, rfl, by simp, OSl.nil _ _⟩ ⟨rfl, rfl, rfl, rfl, rfl, trivial⟩ rfl ?_
 rintro ⟨seen, dn, sec, sa, sc, sg⟩ ⟨hit, hdn, hsub, hsl, hsec, hso⟩
 refine T.seq ?_
 refine T.region ?_
 refine TL.next hF 1 rfl rfl (List.mem_cons_of_mem _ (List.mem_cons_of_mem _ List.mem_cons_self)) hmo hit rfl (fun hover => ?_) (fun p16 seen16 hp16 hnd16 hit16 hent16 => ?_)
 ·refine TL.extract hF rfl rfl rfl ?_
  refine TL.nil ?_
  refine TQ.then_n ?_
  refine T.seq ?_
  refine T.cond_f rfl rfl ?_
  refine T.exit ?_
  refine TQ.then_x ?_
  refine TQ.then_x ?_
  refine TQ.block_x ?_
  refine TQ.then_n ?_
  refine T.seq ?_
  refine T.seq ?_
  refine T.region ?_
  refine TL.move hF rfl rfl ?_
  refine TL.len hF rfl rfl ?_
  refine TL.move hF rfl rfl ?_
  refine TL.nil ?_
  refine TQ.then_n ?_
  refine T.block ?_
  have hsx : ∀ x, 1 ≤ x → (x ∈ sec ↔ x ∈ (nextsS L)) := fun x hx2 => by
   rw [hsec, ← nxm_vals hnm hmo.nd hx2]
   exact ⟨fun ⟨p, h1, _, h3⟩ => ⟨p, h1, h3⟩, fun ⟨p, h1, h3⟩ => ⟨p, h1, hover p h1, h3⟩⟩
  have hdl : dn.length ≤ mp.length := by
   have h := hdn.length_le_of_subset (l₂ := mp.map (·.1)) (fun x hx2 => hsub x hx2)
   rwa [List.length_map] at h
  refine T.hnil ?_
  refine T.loop (ι := Nat × Option Addr × Nat × List (HL × Seg) × Seg) (fun z => match z with | (i, oa, oc, outs, og) => i ≤ L.length ∧ OL 22 (.slice oa outs.length oc) outs og ∧ outs.map (fun t => t.1.2.1) = chainN L (nextsS L) i ∧ ∀ t ∈ outs, t.1.2.1.length ≤ 25) (fun z => match z with | (i, oa, oc, outs, og) => [(2, .slice oa outs.length oc), (3, .map (some mb)), (4, .slice sa sec.length sc), (24, .slice a L.length c), (25, .int .i64 (L.length : Int)), (26, .int .i64 (i : Int))]) (fun z => match z with | (i, oa, oc, outs, og) => og :: (outs.reverse.map (·.2) ++ (sg :: [(b15, Obj.mapIter (some mb) ck seen ck)] :: [(mb, Obj.map es ck)] :: η))) (fun z => L.length - z.1) (0, none, 0, [], []) ⟨Nat.zero_le _, ⟨OSl.nil _ _, fun t ht => by simp at ht⟩, rfl, fun t ht => by simp at ht⟩ ⟨rfl, rfl, rfl, rfl, rfl, rfl, trivial⟩ rfl ?_
  rintro ⟨i, oa, oc, outs, og⟩ ⟨hi, hol, hto, hso2⟩
  refine T.seq ?_
  refine T.region ?_
  refine TL.bin hF rfl rfl rfl rfl ?_
  refine TL.nil ?_
  refine TQ.then_n ?_
  refine T.seq ?_
  first | refine T.cond_d rfl (fun ht27 => ?_) (fun ht27 => ?_) | refine T.cond _ rfl (fun ht27 => ?_) (fun ht27 => ?_)
  ·refine T.skip ?_
   refine TQ.then_n ?_
   refine T.seq ?_
   refine T.block ?_
   refine T.seq ?_
   refine T.region ?_
   have hil : i < L.length := by have h : (i : Int) < (L.length : Int) := ht27; omega
   have hri := hR.pos _ (List.getElem_mem hil)
   have hgi : L.getD i 0 = L[i] := getD_get hil
   refine TL.indexAddr hF rfl rfl (hx.adi (i := i) (by simp; omega)) (by omega) (by omega) rfl ?_
   refine TL.load hF rfl (hx.ro.int (i := i) hil) rfl ?_
   refine TL.assign hF rfl rfl ?_
   refine TL.nil ?_
   refine TQ.then_n ?_
   refine T.seq ?_
   refine T.seq ?_
   refine T.region ?_
   refine TL.move hF rfl rfl ?_
   refine TL.move hF rfl rfl ?_
   refine TL.callV hF (Contains_fn L[i] (hso.row (by simp)) (by omega)) rfl rfl ?_
   refine TL.nil ?_
   refine TQ.then_n ?_
   refine T.cond_d rfl (fun ht32 => ?_) (fun ht32 => ?_)
   ·refine T.exit ?_
    refine TQ.then_x ?_
    refine TQ.block_x ?_
    refine TQ.then_n ?_
    refine T.region ?_
    refine TL.add hF rfl rfl (by omega) (by omega) rfl ?_
    refine TL.move hF rfl rfl ?_
    refine TL.nil ?_
    refine TQ.round (i + 1, oa, oc, outs, og) ⟨by omega, hol, ?_, hso2⟩ (by dsimp only; omega) ⟨rfl, rfl, rfl, rfl, rfl, rfl, trivial⟩ rfl
    rw [hto, chainN_succ, if_neg (by unfold startB; rw [List.getD_eq_getElem?_getD, List.getElem?_eq_getElem hil]; simpa [hsx _ hri.1] using ht32), List.append_nil]
   ·refine T.skip ?_
    refine TQ.then_n ?_
    refine T.seq ?_
    refine T.region ?_
    refine TL.move hF rfl rfl ?_
    refine TL.buildSlice hF rfl (cs := #[.int .i64 L[i]]) (e := 3) (fun w => by kernel_rfl) rfl (fun b34 => ?_)
    refine TL.assign hF rfl rfl ?_
    refine TL.nil ?_
    refine TQ.then_n ?_
    refine T.seq ?_
    refine T.seq ?_
    refine T.region ?_
    refine TL.move hF rfl rfl ?_
    refine TL.move hF rfl rfl ?_
    refine TL.build hF rfl (r := KS L[i]) (fun w => by kernel_rfl) rfl ?_
    refine lookI hF (K := KS) L[i] rfl rfl (by simp) hmo rfl ?_
    refine TL.move hF rfl rfl ?_
    refine TL.extract hF rfl rfl rfl ?_
    refine TL.extract hF rfl rfl rfl ?_
    refine TL.assign hF rfl rfl ?_
    refine TL.assign hF rfl rfl ?_
    refine TL.nil ?_
    refine TQ.then_n ?_
    refine T.block ?_
    refine T.loop (ι := Nat × List Int × Nat × Option Addr × Nat × Seg × Int × Bool) (fun z => match z with | (j, dn, fu, ca, cc, cg, tv, tb) => j < L.length ∧ L[i] :: chainV L (nextsS L) L.length i = dn ++ chainV L (nextsS L) fu j ∧ L.length - j ≤ fu ∧ dn.length + fu ≤ L.length + 1 ∧ OSl 3 1 (.slice ca dn.length cc) dn.length (ints dn) cg ∧ tv = (mget (L.getD j 0) mp).getD 0 ∧ tb = (mget (L.getD j 0) mp).isSome) (fun z => match z with | (j, dn, fu, ca, cc, cg, tv, tb) => [(2, .slice oa outs.length oc), (3, .map (some mb)), (4, .slice sa sec.length sc), (9, .slice ca dn.length cc), (10, .int .i64 tv), (11, .bool tb), (24, .slice a L.length c), (25, .int .i64 (L.length : Int)), (26, .int .i64 (i : Int))]) (fun z => match z with | (j, dn, fu, ca, cc, cg, tv, tb) => cg :: og :: (outs.reverse.map (·.2) ++ (sg :: [(b15, Obj.mapIter (some mb) ck seen ck)] :: [(mb, Obj.map es ck)] :: η))) (fun z => z.2.2.1) (i, [L[i]], L.length, some ⟨b34, 0, none⟩, 1, _, (mget L[i] mp).getD 0, (mget L[i] mp).isSome) ⟨hil, rfl, by omega, by simp; omega, osl_one, by rw [hgi], by rw [hgi]⟩ ⟨rfl, rfl, rfl, rfl, rfl, rfl, rfl, rfl, rfl, trivial⟩ rfl ?_
    clear hit hdn hsub hsl hsec hover hdl
    rintro ⟨j, dn, fu, ca, cc, cg, tv, tb⟩ ⟨hj, hch, hfu, hlen, hcg, htv, htb⟩
    have hmj := hnm.1 j (by omega)
    rw [hmj] at htv htb
    refine T.seq ?_
    refine T.seq ?_
    refine T.region ?_
    refine TL.move hF rfl rfl ?_
    refine TL.nil ?_
    refine TQ.then_n ?_
    refine T.cond _ rfl (fun ht42 => ?_) (fun ht42 => ?_)
    ·refine T.skip ?_
     refine TQ.then_n ?_
     refine T.seq ?_
     refine T.block ?_
     refine T.region ?_
     refine TL.move hF rfl rfl ?_
     refine TL.move hF rfl rfl ?_
     have h0 : 0 < (nextsS L).getD j 0 := by
      refine Decidable.byContradiction fun h => ?_
      rw [if_neg h, ht42] at htb; cases htb
     rw [if_pos h0] at htv
     have htv : tv = (nextsS L).getD j 0 := htv
     subst htv
     obtain ⟨p, hp, hjp, hpl⟩ := next_at hR.up hR.sets hj h0
     have hpv := whereI_get hp
     refine TL.buildSlice hF rfl (cs := #[.int .i64 ((nextsS L).getD j 0)]) (e := 3) (fun w => by kernel_rfl) rfl (fun b52 => ?_)
     refine TL.append hF 1 rfl rfl rfl hcg (row_own (cs := [.int .i64 ((nextsS L).getD j 0)]) (e := 3) (by simp)).src rfl rfl (by simp [Value.oneCell']) (by omega) (by omega) rfl (fun pa pc pg ph => ?_)
     rw [← ints_app] at ph
     refine TL.assign hF rfl rfl ?_
     refine TL.nil ?_
     refine TQ.block_n ?_
     refine TQ.then_n ?_
     refine T.region ?_
     refine TL.move hF rfl rfl ?_
     refine TL.move hF rfl rfl ?_
     refine TL.build hF rfl (r := KS ((nextsS L).getD j 0)) (fun w => by kernel_rfl) rfl ?_
     refine lookI hF (K := KS) ((nextsS L).getD j 0) rfl rfl (by simp) hmo rfl ?_
     refine TL.move hF rfl rfl ?_
     refine TL.extract hF rfl rfl rfl ?_
     refine TL.extract hF rfl rfl rfl ?_
     refine TL.assign hF rfl rfl ?_
     refine TL.assign hF rfl rfl ?_
     refine TL.nil ?_
     obtain ⟨f1, hfe⟩ : ∃ f1, fu = f1 + 1 := ⟨fu - 1, by omega⟩
     have hch2 : L[i] :: chainV L (nextsS L) L.length i = (dn ++ [(nextsS L).getD j 0]) ++ chainV L (nextsS L) f1 p := by
      rw [hch, hfe]
      conv => lhs; unfold chainV
      rw [if_pos h0, hp, Int.toNat_natCast, List.append_assoc]; rfl
     refine TQ.pop ?_
     refine TQ.round (p, dn ++ [(nextsS L).getD j 0], f1, pa, pc, pg, (mget ((nextsS L).getD j 0) mp).getD 0, (mget ((nextsS L).getD j 0) mp).isSome) ⟨hpl, hch2, by omega, by simp; omega, by simpa using ph, by rw [hpv], by rw [hpv]⟩ (by show f1 < fu; omega) ⟨rfl, rfl, rfl, congrArg (fun n : Nat => some (Value.slice pa n pc)) (by simp), rfl, rfl, rfl, rfl, rfl, trivial⟩ rfl
    ·refine T.exit ?_
     refine TQ.then_x ?_
     refine TQ.then_x ?_
     refine TQ.block_x ?_
     refine TQ.then_n ?_
     refine T.region ?_
     refine TL.move hF rfl rfl ?_
     refine TL.move hF rfl rfl ?_
     have h0 : ¬ 0 < (nextsS L).getD j 0 := fun h => by rw [if_pos h, ht42] at htb; cases htb
     have hcn : L[i] :: chainV L (nextsS L) L.length i = dn := by
      rw [hch]
      have e : chainV L (nextsS L) fu j = [] := by
       cases fu with
       | zero => rfl
       | succ f => unfold chainV; rw [if_neg h0]
      rw [e, List.append_nil]
     have hdl : dn.length ≤ 25 := by have := hR.le; omega
     have hool : outs.length ≤ i := by have h1 := congrArg List.length hto; rw [List.length_map] at h1; have h2 := chainN_len L (nextsS L) i; omega
     refine TL.buildSlice hF rfl (cs := #[.slice ca dn.length cc]) (e := 22) (fun w => by kernel_rfl) rfl (fun b61 => ?_)
     refine TL.append hF 2 rfl rfl rfl hol.o (row_own (cs := [.slice ca dn.length cc]) (e := 22) (by simp)).src rfl rfl (by simp [Value.oneCell']) (by omega) (by omega) rfl (fun qa qc qg qh => ?_)
     refine TL.assign hF rfl rfl ?_
     refine TL.nil ?_
     refine TQ.block_n ?_
     refine TQ.then_n ?_
     refine T.region ?_
     refine TL.add hF rfl rfl (by omega) (by omega) rfl ?_
     refine TL.move hF rfl rfl ?_
     refine TL.nil ?_
     have e4 : outs.length + 1 = (outs ++ [(((ca, dn, cc) : HL), cg)]).length := by simp
     refine TQ.pick [2, 1] [_, _, _] rfl rfl rfl ?_
     refine TQ.round (i + 1, qa, qc, outs ++ [((ca, dn, cc), cg)], qg) ⟨by omega, ⟨?_, ?_⟩, ?_, ?_⟩ (by dsimp only; omega) ⟨congrArg (fun n : Nat => some (Value.slice qa n qc)) e4, rfl, rfl, rfl, rfl, rfl, trivial⟩ (by simp [pickL])
     ·rw [← e4, List.map_append]; exact qh
     ·intro t ht
      rcases List.mem_append.1 ht with h | h
      ·exact hol.i t h
      ·rw [List.mem_singleton.1 h]; exact hcg
     ·rw [List.map_append, hto, chainN_succ, if_pos (by unfold startB; rw [List.getD_eq_getElem?_getD, List.getElem?_eq_getElem hil]; simpa [hsx _ hri.1] using ht32)]
      congr 1
      simp only [List.map_cons, List.map_nil]
      rw [← hcn, List.getD_eq_getElem?_getD, List.getElem?_eq_getElem hil]; rfl
     ·intro t ht
      rcases List.mem_append.1 ht with h | h
      ·exact hso2 t h
      ·rw [List.mem_singleton.1 h]; exact hdl
  ·refine T.exit ?_
   refine TQ.then_x ?_
   refine TQ.then_x ?_
   refine TQ.block_x ?_
   refine TQ.then_n ?_
   refine T.seq ?_
   refine T.region ?_
   refine TL.move hF rfl rfl ?_
   refine TL.assign hF rfl rfl ?_
   refine TL.nil ?_
   refine TQ.then_n ?_
   refine T.ret ?_
   have hin : i = L.length := by have h : ¬ (i : Int) < (L.length : Int) := ht27; omega
   subst hin
   refine TQ.hsub (og :: (outs.reverse.map (·.2) ++ η)) (List.Sublist.cons_cons _ (List.Sublist.append (List.Sublist.refl _) (List.Sublist.cons _ (List.Sublist.cons _ (List.sublist_cons_self _ _))))) ?_
   refine TQ.rets [2] _ rfl rfl rfl ?_
   exact ⟨oa, oc, outs, og, rfl, hol, hto, hso2, rfl⟩
 ·refine TL.extract hF rfl rfl rfl ?_
  refine TL.nil ?_
  refine TQ.then_n ?_
  refine T.seq ?_
  refine T.cond_t rfl rfl ?_
  refine T.skip ?_
  refine TQ.then_n ?_
  refine T.block ?_
  refine T.seq ?_
  refine T.region ?_
  refine TL.entry hF rfl (List.mem_cons_of_mem _ List.mem_cons_self) (List.mem_cons_of_mem _ (List.mem_cons_of_mem _ List.mem_cons_self)) hmo hent16 (K := KS) (V := Value.int .i64) (p := p16) rfl ?_
  refine TL.extract hF rfl rfl rfl ?_
  refine TL.assign hF rfl rfl ?_
  refine TL.nil ?_
  refine TQ.then_n ?_
  refine T.region ?_
  refine TL.move hF rfl rfl ?_
  refine TL.move hF rfl rfl ?_
  have hlt := done_lenI hdn hsub hp16 hnd16
  refine TL.buildSlice hF rfl (cs := #[.int .i64 p16.2]) (e := 3) (fun w => by kernel_rfl) rfl (fun b22 => ?_)
  refine TL.append hF 1 rfl rfl rfl hso (row_own (cs := [.int .i64 p16.2]) (e := 3) (by simp)).src rfl rfl (by simp [Value.oneCell']) (by omega) (by omega) rfl (fun pa pc pg ph => ?_)
  rw [← ints_app] at ph
  refine TL.assign hF rfl rfl ?_
  refine TL.nil ?_
  refine TQ.block_n ?_
  refine TQ.pop ?_
  refine TQ.round (seen16, p16.1 :: dn, sec ++ [p16.2], pa, pc, pg) ⟨hit16, List.nodup_cons.2 ⟨hnd16, hdn⟩, fun x hx2 => ?_, by simp [hsl], fun x => ?_, by simpa using ph⟩ (by simp only [List.length_cons]; omega) ⟨rfl, rfl, rfl, congrArg (fun n : Nat => some (Value.slice pa n pc)) (by simp), rfl, trivial⟩ rfl
  ·rcases List.mem_cons.1 hx2 with rfl | hx2
   ·exact List.mem_map.2 ⟨_, hp16, rfl⟩
   ·exact hsub x hx2
  ·rw [List.mem_append, List.mem_singleton, hsec]
   constructor
   ·rintro (⟨p, h1, h2, h3⟩ | rfl)
    ·exact ⟨p, h1, List.mem_cons_of_mem _ h2, h3⟩
    ·exact ⟨p16, hp16, List.mem_cons_self, rfl⟩
   ·rintro ⟨p, h1, h2, rfl⟩
    rcases List.mem_cons.1 h2 with h2 | h2
    ·right
     have h4 := mget_of_mem hmo.nd h1
     rw [h2, mget_of_mem hmo.nd hp16] at h4
     exact (Option.some.inj h4).symm
    ·exact .inl ⟨p, h1, h2, rfl⟩
end Go.Proofs.YtfnalecnnmkgbaaDoor
/- The cover and the orders, by the program. -/
namespace Go.Proofs.YtfnalecnnmkgbaaDoor
open Go.Sl
variable {S : Nat → Prop} {w0 : World} {η : Heap}
theorem filter_enc {n k : Nat} {p : Nat → Bool} (hk : k < n) (hp : p k = true) : (((List.range n).filter p).map fun s : Nat => [Value.int .i64 (s : Int)])[((List.range k).filter p).length]? = some [.int .i64 (k : Int)] := by
 have e : List.range n = List.range k ++ (k :: List.range' (k + 1) (n - k - 1)) := by
  have e : n = k + (1 + (n - k - 1)) := by omega
  conv => lhs; rw [e, List.range_add]
  congr 1
  rw [show 1 + (n - k - 1) = (n - k - 1) + 1 by omega, List.range_succ_eq_map]
  simp [List.range'_eq_map_range, Nat.add_comm, Nat.add_left_comm, Function.comp_def]
 rw [e, List.filter_append, List.filter_cons, if_pos hp, List.map_append, List.getElem?_append_right (by simp)]
 simp
theorem filter_succ {k : Nat} {p : Nat → Bool} : ((List.range (k + 1)).filter p).length = ((List.range k).filter p).length + if p k = true then 1 else 0 := by
 rw [List.range_succ, List.filter_append, List.length_append]
 congr 1
 simp only [List.filter_cons, List.filter_nil]; split <;> simp

set_option maxHeartbeats 2000000 in
theorem Chains_prog {a : Option Addr} {l : List Int} {c : Nat} (cols : Int) (hx : Row S w0 [] a (ints l)) (hl : l.length < 2 ^ 63) (hc : l.length ≤ c) (hg : Kinds S w0) :
  Rt Tryd.prog 14 [.int .i64 cols, .slice a l.length c].toArray S w0 η (ResL S w0 (chainsS cols l) η) := by
 have hF := open_wide
 refine Rt.ofL (fn := Tryd.f14) Tryd.func14 rfl rfl ?_
 refine T.seq ?_
 refine T.region ?_
 refine TL.assign hF rfl rfl ?_
 refine TL.alloc hF rfl (fun b5 => ?_)
 refine TL.nil ?_
 refine TQ.then_n ?_
 refine T.seq ?_
 refine T.region ?_
 refine TL.makeFunc hF rfl rfl rfl ?_
 refine TL.defer hF rfl rfl ?_
 refine TL.nil ?_
 refine TQ.then_n ?_
 refine T.seq ?_
 refine T.region ?_
 refine TL.move hF rfl rfl ?_
 refine TL.move hF rfl rfl ?_
 refine TL.callE hF (opened_risen cols hx hl hc) rfl rfl ?_ ?_
 ·rintro _ _ ⟨L, oa, oc, og, sg, ⟨hLe, hR, hk, rfl, ho⟩, rfl⟩
  have hL24 := hR.le
  refine TL.freeze [og, sg] rfl (fun S1 w1 hz1 => ?_)
  have hrr : Row S1 w1 [] oa (ints L) := (ho.row (η := [og, sg]) List.mem_cons_self).frz hz1
  have hg1 := hg.old hz1
  have hcap := osl_cap ho
  refine TL.call hF (chains_fn hg1 hrr hR (by omega) hcap) rfl rfl ?_
  rintro _ _ ⟨ca, cc, outs, cg, rfl, hol, hto, _, rfl⟩
  refine TL.assign hF rfl rfl ?_
  refine TL.hperm ([(b5, Obj.cells #[.int .i64 0] 24 (0, 0))] :: ((cg :: outs.reverse.map (·.2)) ++ η)) ((List.perm_middle (l₁ := cg :: outs.reverse.map (·.2))).symm) ?_
  refine TL.storeI hF 0 rfl rfl rfl rfl (by decide) ?_
  refine TL.nil ?_
  refine TQ.then_n ?_
  refine T.ret ?_
  refine TQ.thaw hz1 ?_
  refine TQ.retL [4] _ stop36 (stopped_nil _) rfl rfl rfl (own_mem (e := ERR) (fz := (0, 0)) (cs := #[.int .i64 0]) (by simp) rfl) ?_
  have e : chainsS cols l = (chainsR L, 0) := by unfold chainsS; rw [if_pos hk, ← hLe]
  rw [e]
  refine ⟨ca, cc, outs.map (·.1), [og, sg, [(b5, Obj.cells #[.int .i64 0] 24 (0, 0))], cg] ++ outs.reverse.map (·.2), by rw [List.length_map]; rfl, ?_, hol.ll (by simp) (fun t ht => by simp only [List.mem_append, List.mem_map, List.mem_reverse]; right; exact ⟨t, ht, rfl⟩), by simp⟩
  unfold tx
  rw [List.map_map]; exact hto
 ·rintro _ _ ⟨he, rfl, rfl⟩
  refine TQ.then_p ?_
  refine TQ.panL [4] [.slice none 0 0] stop36 (stopped_err _) rfl rfl rfl (At.own' (i := 0) rfl rfl) ?_
  have e : chainsS cols l = ([], checkE cols l) := by unfold chainsS; rw [if_neg he]
  rw [e]; exact ⟨none, 0, [], [_], rfl, rfl, LL.none, rfl⟩
def ColC (x b1 : Nat) (η : Heap) : Prop := [(b1, Obj.cells #[.int .i64 (x : Int)] 90 (0, 0))] ∈ η
theorem bit_and0 (s c : Nat) : decide ((((s / 2 ^ c) &&& 1 : Nat) : Int) = 0) = !s.testBit c := by
 rw [Nat.and_one_is_mod, Nat.testBit_eq_decide_div_mod_eq, Bool.eq_iff_iff, decide_eq_true_eq, Bool.not_eq_true', decide_eq_false_iff_not]; omega
set_option maxHeartbeats 2000000 in
theorem columns_iter {x b1 : Nat} (hx : x < 1024) : Iter Tryd.prog 77 [] [ptr b1] (valE (bitsC 10 (fun k => x.testBit k))) S w0 (ColC x b1) := by
 have hve : valE (bitsC 10 (fun k => x.testBit k)) = ((List.range 10).filter (fun k => x.testBit k)).map fun s : Nat => [Value.int .i64 (s : Int)] := by unfold valE bitsC; rw [List.map_map]; rfl
 intro yl J X η hC hY h0
 rw [hve] at hY ⊢
 have hF := open_wide
 refine Rt.of (fn := Tryd.f77) Tryd.func77 rfl rfl ?_
 refine T.scope ?_
 refine T.seq ?_
 refine T.label ?_
 refine TQ.then_n ?_
 refine T.seq ?_
 refine T.region ?_
 refine TL.move hF rfl rfl ?_
 refine TL.nil ?_
 refine TQ.then_n ?_
 refine T.block ?_
 refine T.loop (ι := Nat × Heap) (fun i' => i'.1 ≤ 10 ∧ J ((List.range i'.1).filter (fun k => x.testBit k)).length i'.2) (fun i => [(0, .func (.yield yl) #[] #[]), (1, ptr b1), (4, .int .i64 (i.1 : Int))]) (fun i => i.2) (fun i => 10 - i.1) (0, η) ⟨Nat.zero_le _, h0⟩ ⟨rfl, rfl, rfl, trivial⟩ rfl ?_
 rintro ⟨k, η1⟩ ⟨hk1, hJ⟩
 dsimp only at hk1 hJ
 have hc1 := hC _ _ hJ
 unfold ColC at hc1
 refine T.seq ?_
 refine T.region ?_
 refine TL.bin hF rfl rfl rfl rfl ?_
 refine TL.nil ?_
 refine TQ.then_n ?_
 refine T.seq ?_
 first | refine T.cond_d rfl (fun ht5 => ?_) (fun ht5 => ?_) | refine T.cond _ rfl (fun ht5 => ?_) (fun ht5 => ?_)
 ·refine T.skip ?_
  refine TQ.then_n ?_
  refine T.seq ?_
  refine T.block ?_
  refine T.seq ?_
  refine T.region ?_
  refine TL.move hF rfl rfl ?_
  refine TL.assign hF rfl rfl ?_
  refine TL.nil ?_
  refine TQ.then_n ?_
  refine T.seq ?_
  refine T.seq ?_
  refine T.region ?_
  refine TL.fieldAddr hF rfl rfl ?_
  refine TL.load hF rfl (own_mem hc1 rfl) rfl ?_
  refine TL.move hF rfl rfl ?_
  have hsd : x / 2 ^ k ≤ x := Nat.div_le_self _ _
  refine TL.shrN hF (a := x) (s := k) rfl rfl (by show k ≤ 64; omega) rfl ?_
  refine TL.andS hF (a := x / 2 ^ k) (m := 1) rfl rfl (by omega) (by omega) rfl ?_
  refine TL.bin hF rfl rfl rfl rfl ?_
  refine TL.nil ?_
  refine TQ.then_n ?_
  refine T.cond _ rfl (fun ht12 => ?_) (fun ht12 => ?_)
  ·refine T.exit ?_
   refine TQ.then_x ?_
   refine TQ.block_x ?_
   refine TQ.then_n ?_
   refine T.region ?_
   refine TL.add hF rfl rfl (by omega) (by omega) rfl ?_
   refine TL.move hF rfl rfl ?_
   refine TL.nil ?_
   have hp : ¬ (fun k => x.testBit k) k = true := fun hh => by
    have h := bit_and0 x k
    rw [show decide ((((x / 2 ^ k) &&& 1 : Nat) : Int) = 0) = true from ht12] at h
    rw [show x.testBit k = true from hh] at h
    cases h
   exact TQ.round (k + 1, η1) ⟨by dsimp only; omega, by dsimp only; rw [filter_succ, if_neg hp]; exact hJ⟩ (by dsimp only; omega) ⟨rfl, rfl, rfl, trivial⟩ rfl
  ·refine T.skip ?_
   refine TQ.then_n ?_
   refine T.seq ?_
   refine T.region ?_
   refine TL.move hF rfl rfl ?_
   refine TL.move hF rfl rfl ?_
   have hkl : k < 10 := by omega
   have hp : (fun k => x.testBit k) k = true := by
    have h := bit_and0 x k
    rw [show decide ((((x / 2 ^ k) &&& 1 : Nat) : Int) = 0) = false from ht12] at h
    show x.testBit k = true
    cases hb : x.testBit k with
    | true => rfl
    | false => rw [hb] at h; cases h
   refine TL.yield rfl rfl rfl (hY _ _ _ (filter_enc (p := (fun k => x.testBit k)) hkl hp) hJ) rfl (fun yb η2 hyb => ?_)
   refine TL.not hF rfl rfl ?_
   refine TL.nil ?_
   refine TQ.then_n ?_
   refine T.cond _ rfl (fun ht16 => ?_) (fun ht16 => ?_)
   ·refine T.ret ?_
    refine TQ.block_r ?_
    refine TQ.then_r ?_
    refine TQ.then_r ?_
    refine TQ.block_r ?_
    refine TQ.scope_r ?_
    refine TQ.rets [] _ rfl rfl rfl ?_
    have hyf : yb = false := by simpa using ht16
    subst hyf
    exact .inr hyb
   ·refine T.skip ?_
    refine TQ.block_n ?_
    refine TQ.then_n ?_
    refine T.region ?_
    refine TL.add hF rfl rfl (by omega) (by omega) rfl ?_
    refine TL.move hF rfl rfl ?_
    refine TL.nil ?_
    have hyt : yb = true := by simpa using ht16
    subst hyt
    exact TQ.round (k + 1, η2) ⟨by dsimp only; omega, by dsimp only; rw [filter_succ, if_pos hp]; exact hyb⟩ (by dsimp only; omega) ⟨rfl, rfl, rfl, trivial⟩ rfl
 ·refine T.exit ?_
  refine TQ.then_x ?_
  refine TQ.then_x ?_
  refine TQ.block_x ?_
  refine TQ.scope_n ?_
  refine TQ.norm ?_
  refine TQ.rets [] _ rfl rfl rfl ?_
  have hkn : k = 10 := by omega
  subst hkn
  left; simpa using hJ
set_option maxHeartbeats 2000000 in
theorem columns_fn {x : Nat} :
  Rt Tryd.prog 65 [.agg #[.int .i64 (x : Int)]].toArray S w0 η (fun v η' => ∃ b1, v = .func (.func 77) #[] #[ptr b1] ∧ η' = [(b1, Obj.cells #[.int .i64 (x : Int)] 90 (0, 0))] :: η) := by
 have hF := open_wide
 refine Rt.of (fn := Tryd.f65) Tryd.func65 rfl rfl ?_
 refine T.seq ?_
 refine T.region ?_
 refine TL.box hF rfl rfl (fun b1 => ?_)
 refine TL.assign hF rfl rfl ?_
 refine TL.nil ?_
 refine TQ.then_n ?_
 refine T.seq ?_
 refine T.region ?_
 refine TL.makeFunc hF rfl rfl rfl ?_
 refine TL.assign hF rfl rfl ?_
 refine TL.nil ?_
 refine TQ.then_n ?_
 refine T.ret ?_
 refine TQ.rets [2] _ rfl rfl rfl ?_
 exact ⟨b1, rfl, rfl⟩
theorem len_one {l : List Int} {x : Int} : (l ++ [x]).length = l.length + 1 := by simp
theorem bits_same {m : Nat} {p q : Nat → Bool} (hpq : ∀ c, c < m → p c = q c) (hp : ∀ c, m ≤ c → p c = false) : ∀ d, bitsC (m + d) p = bitsC m q
 | 0 => by
  unfold bitsC
  congr 1
  exact List.filter_congr fun c hc => hpq c (List.mem_range.1 hc)
 | d + 1 => by rw [← Nat.add_assoc, bitsC_succ, bits_same hpq hp d, if_neg (by rw [hp _ (by omega)]; decide), List.append_nil]
/-- The columns that are new. -/
theorem new_bits {m s was : Nat} {out : List Int} (hm : m ≤ 10) (hs : s < 2 ^ m) (h : ∀ c : Nat, (c : Int) ∈ out ↔ was.testBit c = true) : bitsC 10 (fun k => (bnot s was).testBit k) = bitsC m (newC out s) := by
 have e : 10 = m + (10 - m) := by omega
 rw [e]
 refine bits_same (fun c hc => ?_) (fun c hc => ?_) _
 ·show (bnot s was).testBit c = newC out s c
  rw [testBit_bnot]; unfold newC
  congr 2
  rw [Bool.eq_iff_iff, decide_eq_true_eq, h]
 ·show (bnot s was).testBit c = false
  rw [testBit_bnot, Nat.testBit_lt_two_pow (Nat.lt_of_lt_of_le hs (Nat.pow_le_pow_right (by decide) hc))]; rfl
theorem new_mem {m s was : Nat} {out : List Int} (hs : s < 2 ^ m) (h : ∀ c : Nat, (c : Int) ∈ out ↔ was.testBit c = true) (c : Nat) : (c : Int) ∈ out ++ bitsC m (newC out s) ↔ (was ||| s).testBit c = true := by
 rw [List.mem_append, mem_bitsC, h, Nat.testBit_or, Bool.or_eq_true]
 unfold newC
 rw [Bool.and_eq_true, Bool.not_eq_true', decide_eq_false_iff_not, h]
 constructor
 ·rintro (q | ⟨_, q, _⟩)
  ·exact .inl q
  ·exact .inr q
 ·rintro (q | q)
  ·exact .inl q
  ·by_cases hw : was.testBit c = true
   ·exact .inl hw
   ·refine .inr ⟨?_, q, hw⟩
    refine Nat.lt_of_not_le fun hle => ?_
    rw [Nat.testBit_lt_two_pow (Nat.lt_of_lt_of_le hs (Nat.pow_le_pow_right (by decide) hle))] at q
    cases q
set_option maxHeartbeats 2000000 in
theorem order_fn {a : Option Addr} {ch : List Int} {c m : Nat} (hx : Row S w0 [] a (ints ch)) (hs : ∀ x ∈ ch, 0 ≤ x ∧ x < ((2 ^ m : Nat) : Int)) (hl : ch.length ≤ 25) (hm : m ≤ 10) :
  Rt Tryd.prog 43 [.int .i64 (m : Int), .slice a ch.length c].toArray S w0 η (fun v η' => ∃ oa oc og, v = .slice oa (orderS m ch).length oc ∧ OSl 3 1 (.slice oa (orderS m ch).length oc) (orderS m ch).length (ints (orderS m ch)) og ∧ η' = og :: η) := by
 have hF := open_wide
 refine Rt.ofL (fn := Tryd.f43) Tryd.func43 rfl rfl ?_
 refine T.seq ?_
 refine T.region ?_
 refine TL.alloc hF rfl (fun b4 => ?_)
 refine TL.nil ?_
 refine TQ.then_n ?_
 refine T.seq ?_
 refine T.region ?_
 refine TL.assign hF rfl rfl ?_
 refine TL.nil ?_
 refine TQ.then_n ?_
 refine T.seq ?_
 refine T.seq ?_
 refine T.region ?_
 refine TL.move hF rfl rfl ?_
 refine TL.move hF rfl rfl ?_
 have hp := two_pow hm
 refine TL.shlS hF (a := 1) (s := m) rfl rfl (by omega) (by omega) rfl ?_
 refine TL.subK hF rfl rfl (r := ((2 ^ m - 1 : Nat) : Int)) (by have h1 : 1 ≤ 2 ^ m := Nat.one_le_two_pow; rw [Nat.one_mul]; exact (wrap_i64 (by omega) (by omega)).trans (by omega)) rfl ?_
 refine TL.buildSlice hF rfl (cs := #[.int .i64 ((2 ^ m - 1 : Nat) : Int)]) (e := 3) (fun w => by kernel_rfl) rfl (fun b14 => ?_)
 refine TL.buildSlice hF rfl (cs := #[.slice a ch.length c, .slice (some ⟨b14, 0, none⟩) 1 1]) (e := 22) (fun w => by kernel_rfl) rfl (fun b15 => ?_)
 refine TL.call hF (joined_one (ηr := [[(b15, Obj.cells #[.slice a ch.length c, .slice (some ⟨b14, 0, none⟩) 1 1] 22 (0, 0))], [(b14, Obj.cells #[.int .i64 ((2 ^ m - 1 : Nat) : Int)] 3 (0, 0))]]) (η2 := [(b4, Obj.cells #[.slice none 0 0] 22 (0, 0))] :: η) (out := ch) (s := ((2 ^ m - 1 : Nat) : Int)) (row_own (e := 22) (cs := [.slice a ch.length c, .slice (some ⟨b14, 0, none⟩) 1 1]) (by simp)) hx.ro (row_own (e := 3) (cs := [.int .i64 ((2 ^ m - 1 : Nat) : Int)]) (by simp)) (by omega)) rfl rfl ?_
 rintro _ _ ⟨ja, jc, jg, rfl, hjo, rfl⟩
 refine TL.freeze [[(b15, Obj.cells #[.slice a ch.length c, .slice (some ⟨b14, 0, none⟩) 1 1] 22 (0, 0))], [(b14, Obj.cells #[.int .i64 ((2 ^ m - 1 : Nat) : Int)] 3 (0, 0))], jg] rfl (fun S1 w1 hz1 => ?_)
 have hjr : Row S1 w1 [] ja (ints (ch ++ [((2 ^ m - 1 : Nat) : Int)])) := (hjo.row (η := [[(b15, Obj.cells #[.slice a ch.length c, .slice (some ⟨b14, 0, none⟩) 1 1] 22 (0, 0))], [(b14, Obj.cells #[.int .i64 ((2 ^ m - 1 : Nat) : Int)] 3 (0, 0))], jg]) (by simp)).frz hz1
 refine TL.len hF rfl rfl ?_
 refine TL.move hF rfl rfl ?_
 refine TL.nil ?_
 refine TQ.then_n ?_
 refine T.block ?_
 refine T.heap (η' := [(b4, Obj.cells #[.slice none 0 0] 22 (0, 0))] :: η) rfl ?_
 refine T.hnil ?_
 refine T.pick [1, 0] [[], _] rfl rfl rfl ?_
 refine T.loopD (ι := Nat × Nat × Option Addr × Nat × Seg × List Nat) (fun z => match z with | (i, was, oa, oc, og, ms) => i ≤ ch.length + 1 ∧ was < 1024 ∧ (∀ c : Nat, (c : Int) ∈ (((ch ++ [((2 ^ m - 1 : Nat) : Int)]).take i).foldl (stepR m) []) ↔ was.testBit c = true) ∧ OSl 3 1 (.slice oa (((ch ++ [((2 ^ m - 1 : Nat) : Int)]).take i).foldl (stepR m) []).length oc) (((ch ++ [((2 ^ m - 1 : Nat) : Int)]).take i).foldl (stepR m) []).length (ints (((ch ++ [((2 ^ m - 1 : Nat) : Int)]).take i).foldl (stepR m) [])) og) (fun z => match z with | (i, was, oa, oc, og, ms) => [(5, .int .i64 (was : Int)), (4, ptr b4), (16, .slice ja (ch.length + 1) jc), (17, .int .i64 ((ch.length + 1 : Nat) : Int)), (18, .int .i64 (i : Int))]) (fun z => match z with | (i, was, oa, oc, og, ms) => [(b4, Obj.cells #[.slice oa (((ch ++ [((2 ^ m - 1 : Nat) : Int)]).take i).foldl (stepR m) []).length oc] 22 (0, 0))] :: og :: (marksH ms ++ η)) (fun z => match z with | (i, was, oa, oc, og, ms) => marksOf ms ++ []) (fun z => ch.length + 1 - z.1) (0, 0, none, 0, [], []) ⟨Nat.zero_le _, by decide, fun c => by simp, OSl.nil _ _⟩ ⟨rfl, rfl, rfl, rfl, rfl, trivial⟩ rfl rfl ?_
 rintro ⟨i, was, oa, oc, og, ms⟩ ⟨hi, hwas, hmem, ho⟩
 refine T.seq ?_
 refine T.region ?_
 refine TL.bin hF rfl rfl rfl rfl ?_
 refine TL.nil ?_
 refine TQ.then_n ?_
 refine T.seq ?_
 first | refine T.cond_d rfl (fun ht19 => ?_) (fun ht19 => ?_) | refine T.cond _ rfl (fun ht19 => ?_) (fun ht19 => ?_)
 ·refine T.skip ?_
  refine TQ.then_n ?_
  refine T.seq ?_
  refine T.block ?_
  refine T.seq ?_
  refine T.region ?_
  have hil : i < (ch ++ [((2 ^ m - 1 : Nat) : Int)]).length := by have h : (i : Int) < ((ch.length + 1 : Nat) : Int) := ht19; simp; omega
  have hst : ∃ s : Nat, (ch ++ [((2 ^ m - 1 : Nat) : Int)])[i]'hil = (s : Int) ∧ s < 2 ^ m := by
   by_cases h : i < ch.length
   ·rw [List.getElem_append_left h]
    have := hs _ (List.getElem_mem h)
    exact ⟨ch[i].toNat, by omega, by omega⟩
   ·have h1 : 1 ≤ 2 ^ m := Nat.one_le_two_pow
    rw [List.getElem_append_right (by omega)]
    simp only [show i - ch.length = 0 by simp at hil; omega, List.getElem_cons_zero]
    exact ⟨2 ^ m - 1, rfl, by omega⟩
  obtain ⟨s, hse, hs4⟩ := hst
  have hfs : (((ch ++ [((2 ^ m - 1 : Nat) : Int)]).take (i + 1)).foldl (stepR m) []) = stepR m (((ch ++ [((2 ^ m - 1 : Nat) : Int)]).take i).foldl (stepR m) []) (s : Int) := by
   rw [List.take_succ_eq_append_getElem hil, List.foldl_append, hse]; rfl
  have hfl := fold_len m ((ch ++ [((2 ^ m - 1 : Nat) : Int)]).take i) []
  rw [List.length_take] at hfl
  have hfl2 : (((ch ++ [((2 ^ m - 1 : Nat) : Int)]).take i).foldl (stepR m) []).length ≤ m * 26 := Nat.le_trans hfl (by rw [List.length_nil, Nat.zero_add]; exact Nat.mul_le_mul_left m (by omega))
  have hfl3 : m * 26 ≤ 260 := Nat.mul_le_mul_right 26 hm
  have hbn := bnot_le s was
  have hbits := new_bits hm hs4 hmem
  have hmem2 := new_mem hs4 hmem
  have hbl := bitsC_len 10 (fun k => (bnot s was).testBit k)
  have hsl : (ch ++ [((2 ^ m - 1 : Nat) : Int)]).length = ch.length + 1 := by simp
  refine TL.indexAddr hF rfl rfl (hjr.adi (i := i) (by simp [ints]; omega)) (by omega) (by omega) rfl ?_
  refine TL.load hF rfl (v := .int .i64 (s : Int)) (by rw [← hse]; exact (hjr.ro.int (i := i) hil)) rfl ?_
  refine TL.assign hF rfl rfl ?_
  refine TL.nil ?_
  refine TQ.then_n ?_
  refine T.seq ?_
  refine T.region ?_
  refine TL.move hF rfl rfl ?_
  refine TL.move hF rfl rfl ?_
  obtain ⟨out, hout⟩ : ∃ o, o = (((ch ++ [((2 ^ m - 1 : Nat) : Int)]).take i).foldl (stepR m) []) := ⟨_, rfl⟩
  rw [← hout] at ho hfs hfl2 hbits hmem2
  refine TL.heap (η' := [(b4, Obj.cells #[.slice oa out.length oc] 22 (0, 0))] :: og :: (marksH ms ++ η)) (by subst hout; rfl) ?_
  clear hout
  refine TL.andNotS hF (a := s) (m := was) rfl rfl (by omega) (by omega) rfl ?_
  refine TL.build hF rfl (r := .agg #[.int .i64 ((bnot s was : Nat) : Int)]) (fun w => by kernel_rfl) rfl ?_
  refine TL.makeFunc hF rfl rfl rfl ?_
  refine TL.assign hF rfl rfl ?_
  refine TL.nil ?_
  refine TQ.then_n ?_
  refine T.seq ?_
  refine T.seq ?_
  refine T.region ?_
  refine TL.move hF rfl rfl ?_
  refine TL.call hF (columns_fn (x := bnot s was)) rfl rfl ?_
  rintro _ _ ⟨b1, rfl, rfl⟩
  refine TL.nil ?_
  refine TQ.then_n ?_
  refine T.block ?_
  refine T.rangeFunc (fst := []) (cap := [ptr b1]) rfl (columns_iter (x := bnot s was) (b1 := b1) (by omega)) (by
    intro e he; obtain ⟨z, _, rfl⟩ := List.mem_map.1 he; rfl) (by simp) (fun i η1 => ∃ oa oc og, η1 = [(b1, Obj.cells #[.int .i64 (bnot s was : Int)] 90 (0, 0))] :: [(b4, Obj.cells #[.slice oa (out ++ (bitsC 10 (fun k => (bnot s was).testBit k)).take i).length oc] 22 (0, 0))] :: og :: (marksH ms ++ η) ∧ OSl 3 1 (.slice oa (out ++ (bitsC 10 (fun k => (bnot s was).testBit k)).take i).length oc) (out ++ (bitsC 10 (fun k => (bnot s was).testBit k)).take i).length (ints (out ++ (bitsC 10 (fun k => (bnot s was).testBit k)).take i)) og) (fun _ _ => False) ⟨oa, oc, og, by simp, by simpa using ho⟩ ?_ ?_ ?_ ?_
  ·rintro i _ tl ⟨oa, oc, og, rfl, _⟩
   exact by simp [ColC]
  ·clear ho
   rintro l tl tl' q e _ hie ⟨oa, oc, og, rfl, ho⟩
   have hF := open_round l
   have hql : q < (bitsC 10 (fun k => (bnot s was).testBit k)).length := by have := (List.getElem?_eq_some_iff.1 hie).1; rwa [valE_len] at this
   rw [valE_at hql] at hie
   cases hie
   have hle : (out ++ (bitsC 10 (fun k => (bnot s was).testBit k)).take q).length ≤ 270 := by rw [List.length_append, List.length_take]; omega
   have e1 : out ++ (bitsC 10 (fun k => (bnot s was).testBit k)).take (q + 1) = (out ++ (bitsC 10 (fun k => (bnot s was).testBit k)).take q) ++ [(bitsC 10 (fun k => (bnot s was).testBit k))[q]] := by rw [List.take_succ_eq_append_getElem hql, List.append_assoc]
   refine T.region ?_
   refine TL.assign hF rfl rfl ?_
   refine TL.nil ?_
   refine TQ.swapT _ rfl ?_
   refine T.block ?_
   refine T.region ?_
   refine TL.load hF rfl (own_mem (e := 22) (fz := (0, 0)) (cs := #[.slice oa (out ++ (bitsC 10 (fun k => (bnot s was).testBit k)).take q).length oc]) (by simp) rfl) rfl ?_
   refine TL.move hF rfl rfl ?_
   refine TL.buildSlice hF rfl (cs := #[.int .i64 (bitsC 10 (fun k => (bnot s was).testBit k))[q]]) (e := 3) (fun w => by kernel_rfl) rfl (fun b32 => ?_)
   refine TL.append hF 3 rfl rfl rfl ho (row_own (cs := [.int .i64 (bitsC 10 (fun k => (bnot s was).testBit k))[q]]) (e := 3) (by simp)).src rfl rfl (by simp [Value.oneCell']) (by omega) (by omega) rfl (fun pa pc pg ph => ?_)
   rw [← ints_app] at ph
   refine TL.storeI hF 2 rfl rfl rfl rfl (by simp) ?_
   refine TL.nil ?_
   refine TQ.block_n ?_
   rw [← e1] at ph
   have e2 : (out ++ (bitsC 10 (fun k => (bnot s was).testBit k)).take q).length + 1 = (out ++ (bitsC 10 (fun k => (bnot s was).testBit k)).take (q + 1)).length := by rw [e1]; exact len_one.symm
   refine TQ.pop ?_
   refine TQ.rq_n ([(b1, Obj.cells #[.int .i64 (bnot s was : Int)] 90 (0, 0))] :: [(b4, Obj.cells #[.slice pa ((out ++ (bitsC 10 (fun k => (bnot s was).testBit k)).take q).length + 1) pc] 22 (0, 0))] :: pg :: (marksH ms ++ η)) rfl ⟨pa, pc, pg, by rw [e2], by rw [← e2]; exact ph⟩
  ·clear ho
   rintro mk _ ⟨oa, oc, og, rfl, ho⟩
   rw [valE_len, List.take_of_length_le (Nat.le_refl _)] at ho ⊢
   rw [hbits] at ho ⊢
   refine TQ.block_n ?_
   refine TQ.then_n ?_
   refine T.region ?_
   refine TL.move hF rfl rfl ?_
   refine TL.move hF rfl rfl ?_
   refine TL.orS hF (a := was) (m := s) rfl rfl (by omega) (by omega) rfl ?_
   refine TL.assign hF rfl rfl ?_
   refine TL.nil ?_
   refine TQ.block_n ?_
   refine TQ.then_n ?_
   refine T.region ?_
   refine TL.add hF rfl rfl (by omega) (by omega) rfl ?_
   refine TL.move hF rfl rfl ?_
   refine TL.nil ?_
   have e1 : (((ch ++ [((2 ^ m - 1 : Nat) : Int)]).take (i + 1)).foldl (stepR m) []) = (out ++ bitsC m (newC out s)) := by rw [hfs]; unfold stepR; rw [Int.toNat_natCast]
   refine TQ.hsub ([(mk, .deferred (some []))] :: [(b4, Obj.cells #[.slice oa (out ++ bitsC m (newC out s)).length oc] 22 (0, 0))] :: og :: (marksH ms ++ η)) (List.Sublist.cons_cons _ (List.sublist_cons_self _ _)) ?_
   refine TQ.hperm ([(b4, Obj.cells #[.slice oa (out ++ bitsC m (newC out s)).length oc] 22 (0, 0))] :: og :: (marksH (mk :: ms) ++ η)) (List.perm_middle (l₁ := [_, _])) ?_
   exact TQ.roundD (i + 1, was ||| s, oa, oc, og, mk :: ms) ⟨by simp at hil; omega, Nat.or_lt_two_pow (n := 10) hwas (by omega), by rw [e1]; exact hmem2, by rw [e1]; exact ho⟩ (by simp at hil; dsimp only; omega) ⟨rfl, rfl, rfl, rfl, rfl, trivial⟩ (by rw [← e1]) rfl
  ·rintro _ _ _ h; exact h.elim
 ·refine T.exit ?_
  refine TQ.then_x ?_
  refine TQ.then_x ?_
  refine TQ.block_x ?_
  refine TQ.then_n ?_
  refine T.seq ?_
  refine T.region ?_
  have hin : i = ch.length + 1 := by have h : ¬ (i : Int) < ((ch.length + 1 : Nat) : Int) := ht19; omega
  have e : (((ch ++ [((2 ^ m - 1 : Nat) : Int)]).take i).foldl (stepR m) []) = orderS m ch := by unfold orderS; rw [List.take_of_length_le (by simp; omega)]
  rw [e] at ho
  refine TL.heap (η' := [(b4, Obj.cells #[.slice oa (orderS m ch).length oc] 22 (0, 0))] :: og :: (marksH ms ++ η)) (by rw [← e]) ?_
  refine TL.load hF rfl (own_mem (e := 22) (fz := (0, 0)) (cs := #[.slice oa (orderS m ch).length oc]) (by simp) rfl) rfl ?_
  refine TL.storeI hF 0 rfl rfl rfl rfl (by simp) ?_
  refine TL.nil ?_
  refine TQ.then_n ?_
  refine T.ret ?_
  refine TQ.thaw hz1 ?_
  refine TQ.hsub ([(b4, Obj.cells #[.slice oa (orderS m ch).length oc] 22 (0, 0))] :: og :: (marksH ms ++ η)) (List.sublist_append_right [[(b15, Obj.cells #[.slice a ch.length c, .slice (some ⟨b14, 0, none⟩) 1 1] 22 (0, 0))], [(b14, Obj.cells #[.int .i64 ((2 ^ m - 1 : Nat) : Int)] 3 (0, 0))], jg] _) ?_
  refine TQ.hperm (marksH ms ++ ([(b4, Obj.cells #[.slice oa (orderS m ch).length oc] 22 (0, 0))] :: og :: η)) ((List.perm_middle (l₁ := marksH ms)).trans ((List.perm_middle (l₁ := marksH ms)).cons _)) ?_
  refine TQ.marks (.inl rfl) ?_ ms
  refine TQ.retLC1 (og :: η) rfl rfl (own_mem (e := 22) (fz := (0, 0)) (cs := #[.slice oa (orderS m ch).length oc]) (by simp) rfl) (List.sublist_cons_self _ _) ?_
  exact ⟨oa, oc, og, rfl, ho, rfl⟩
end Go.Proofs.YtfnalecnnmkgbaaDoor
/- The orders of the chains, by the program. -/
namespace Go.Proofs.YtfnalecnnmkgbaaDoor
open Go.Sl
variable {S : Nat → Prop} {w0 : World} {η : Heap}
theorem chains_ll {a : Option Addr} {L : List Int} {c : Nat} (hg : Kinds S w0) (hx : Row S w0 [] a (ints L)) (hR : RisOk L) (hl : L.length < 4294967296) (hc : L.length ≤ c) :
  Rt Tryd.prog 37 [.slice a L.length c].toArray S w0 η (fun v η' => ∃ oa oc qs segs, v = .slice oa qs.length oc ∧ LL S w0 segs oa qs ∧ tx qs = chainsR L ∧ η' = segs ++ η) :=
 (chains_fn hg hx hR hl hc).mono fun v η' ⟨oa, oc, outs, og, h1, h2, h3, _, h5⟩ => ⟨oa, oc, outs.map (·.1), og :: outs.reverse.map (·.2), by rw [List.length_map]; exact h1, h2.ll (by simp) (fun t ht => by simp only [List.mem_cons, List.mem_map, List.mem_reverse]; right; exact ⟨t, ht, rfl⟩), by unfold tx; rw [List.map_map]; exact h3, by rw [h5]; rfl⟩
set_option maxHeartbeats 2000000 in
theorem Orders_prog {a : Option Addr} {l : List Int} {c : Nat} (cols : Int) (hx : Row S w0 [] a (ints l)) (hl : l.length < 2 ^ 63) (hc : l.length ≤ c) (hg : Kinds S w0) :
  Rt Tryd.prog 16 [.int .i64 cols, .slice a l.length c].toArray S w0 η (ResL S w0 (ordersS cols l) η) := by
 have hF := open_wide
 refine Rt.ofL (fn := Tryd.f16) Tryd.func16 rfl rfl ?_
 refine T.seq ?_
 refine T.region ?_
 refine TL.assign hF rfl rfl ?_
 refine TL.alloc hF rfl (fun b5 => ?_)
 refine TL.nil ?_
 refine TQ.then_n ?_
 refine T.seq ?_
 refine T.region ?_
 refine TL.makeFunc hF rfl rfl rfl ?_
 refine TL.defer hF rfl rfl ?_
 refine TL.nil ?_
 refine TQ.then_n ?_
 refine T.seq ?_
 refine T.region ?_
 refine TL.assign hF rfl rfl ?_
 refine TL.nil ?_
 refine TQ.then_n ?_
 refine T.seq ?_
 refine T.seq ?_
 refine T.region ?_
 refine TL.move hF rfl rfl ?_
 refine TL.move hF rfl rfl ?_
 refine TL.callE hF (opened_risen cols hx hl hc) rfl rfl ?_ ?_
 ·rintro _ _ ⟨L, oa, oc, lg, sg, ⟨hLe, hR, hk, rfl, ho⟩, rfl⟩
  have hL24 := hR.le
  refine TL.freeze [lg, sg] rfl (fun S1 w1 hz1 => ?_)
  have hrr : Row S1 w1 [] oa (ints L) := (ho.row (η := [lg, sg]) List.mem_cons_self).frz hz1
  have hg1 := hg.old hz1
  have hcap := osl_cap ho
  refine TL.call hF (chains_ll hg1 hrr hR (by omega) hcap) rfl rfl ?_
  rintro _ _ ⟨qa, qc, qs, segs, rfl, hq, htq, rfl⟩
  refine TL.freeze segs rfl (fun S2 w2 hz2 => ?_)
  have hq1 := hq.frz hz2
  have hok := chains_ok hR
  rw [← htq] at hok
  have hcols := checkE_ok hk
  obtain ⟨m, rfl⟩ : ∃ m : Nat, cols = (m : Int) := ⟨cols.toNat, by omega⟩
  have hm : m ≤ 10 := by omega
  have hql : qs.length ≤ 24 := by rw [← tx_len, htq]; exact Nat.le_trans (chainN_len _ _ _) hL24
  have hrg : ∀ x ∈ L, 0 ≤ x ∧ x < ((2 ^ m : Nat) : Int) := fun x hx2 => by
   have := hcols.2.2.1 x (mem_rising.1 (hLe ▸ hx2))
   rw [Int.toNat_natCast] at this
   omega
  refine TL.len hF rfl rfl ?_
  refine TL.move hF rfl rfl ?_
  refine TL.nil ?_
  refine TQ.then_n ?_
  refine T.block ?_
  refine T.heap (η' := [(b5, Obj.cells #[.int .i64 0] 24 (0, 0))] :: η) (by simp [Value.cells]) ?_
  refine T.hnil ?_
  refine T.loop (ι := Nat × Option Addr × Nat × List (HL × Seg) × Seg) (fun z => match z with | (i, oa, oc, outs, og) => i ≤ qs.length ∧ outs.length = i ∧ OL 22 (.slice oa outs.length oc) outs og ∧ outs.map (fun t => t.1.2.1) = ((tx qs).take i).map (orderS m)) (fun z => match z with | (i, oa, oc, outs, og) => [(0, .int .i64 (m : Int)), (4, .slice none 0 0), (5, ptr b5), (13, .slice qa qs.length qc), (14, .int .i64 (qs.length : Int)), (6, .slice oa outs.length oc), (15, .int .i64 (i : Int))]) (fun z => match z with | (i, oa, oc, outs, og) => og :: (outs.reverse.map (·.2) ++ ([(b5, Obj.cells #[.int .i64 0] 24 (0, 0))] :: η))) (fun z => qs.length - z.1) (0, none, 0, [], []) ⟨Nat.zero_le _, rfl, ⟨OSl.nil _ _, fun t ht => by simp at ht⟩, rfl⟩ ⟨rfl, rfl, rfl, rfl, rfl, rfl, rfl, trivial⟩ rfl ?_
  clear ho hcap hrr oa oc
  rintro ⟨i, oa, oc, outs, og⟩ ⟨hi, hoi, hol, hto⟩
  refine T.seq ?_
  refine T.region ?_
  refine TL.bin hF rfl rfl rfl rfl ?_
  refine TL.nil ?_
  refine TQ.then_n ?_
  refine T.seq ?_
  first | refine T.cond_d rfl (fun ht16 => ?_) (fun ht16 => ?_) | refine T.cond _ rfl (fun ht16 => ?_) (fun ht16 => ?_)
  ·refine T.skip ?_
   refine TQ.then_n ?_
   refine T.seq ?_
   refine T.block ?_
   refine T.seq ?_
   refine T.region ?_
   have hiq : i < qs.length := by have h : (i : Int) < (qs.length : Int) := ht16; omega
   have hci := hok _ (List.mem_map_of_mem (List.getElem_mem hiq))
   refine TL.indexAddr hF rfl rfl (hq1.ad (i := i) hiq) (by omega) (by omega) rfl ?_
   refine TL.load hF rfl (hq1.ro.at (i := i) hiq) rfl ?_
   refine TL.assign hF rfl rfl ?_
   refine TL.nil ?_
   refine TQ.then_n ?_
   refine T.region ?_
   refine TL.move hF rfl rfl ?_
   refine TL.move hF rfl rfl ?_
   refine TL.move hF rfl rfl ?_
   refine TL.call hF (order_fn (hq1.it hiq) (fun x hx2 => hrg x (hci.1 x hx2)) hci.2 hm) rfl rfl ?_
   rintro _ _ ⟨ca, cc, cg, rfl, hcg, rfl⟩
   refine TL.buildSlice hF rfl (cs := #[.slice ca (orderS m qs[i].2.1).length cc]) (e := 22) (fun w => by kernel_rfl) rfl (fun b23 => ?_)
   refine TL.append hF 2 rfl rfl rfl hol.o (row_own (cs := [.slice ca (orderS m qs[i].2.1).length cc]) (e := 22) (by simp)).src rfl rfl (by simp [Value.oneCell']) (by omega) (by omega) rfl (fun pa pc pg ph => ?_)
   refine TL.assign hF rfl rfl ?_
   refine TL.nil ?_
   refine TQ.block_n ?_
   refine TQ.then_n ?_
   refine T.region ?_
   refine TL.add hF rfl rfl (by omega) (by omega) rfl ?_
   refine TL.move hF rfl rfl ?_
   refine TL.nil ?_
   have e4 : outs.length + 1 = (outs ++ [(((ca, orderS m qs[i].2.1, cc) : HL), cg)]).length := by simp
   refine TQ.pick [2, 1] [_, _, _] rfl rfl rfl ?_
   refine TQ.round (i + 1, pa, pc, outs ++ [((ca, orderS m qs[i].2.1, cc), cg)], pg) ⟨by omega, by simp [hoi], ⟨?_, ?_⟩, ?_⟩ (by dsimp only; omega) ⟨rfl, rfl, rfl, rfl, rfl, congrArg (fun n : Nat => some (Value.slice pa n pc)) e4, rfl, trivial⟩ (by simp [pickL])
   ·rw [← e4, List.map_append]; exact ph
   ·intro t ht
    rcases List.mem_append.1 ht with h | h
    ·exact hol.i t h
    ·rw [List.mem_singleton.1 h]; exact hcg
   ·rw [List.map_append, hto, tx_take hiq, List.map_append]; rfl
  ·refine T.exit ?_
   refine TQ.then_x ?_
   refine TQ.then_x ?_
   refine TQ.block_x ?_
   refine TQ.then_n ?_
   refine T.seq ?_
   refine T.region ?_
   refine TL.move hF rfl rfl ?_
   refine TL.assign hF rfl rfl ?_
   refine TL.hperm ([(b5, Obj.cells #[.int .i64 0] 24 (0, 0))] :: ((og :: outs.reverse.map (·.2)) ++ η)) ((List.perm_middle (l₁ := og :: outs.reverse.map (·.2))).symm) ?_
   refine TL.storeI hF 0 rfl rfl rfl rfl (by decide) ?_
   refine TL.nil ?_
   refine TQ.then_n ?_
   refine T.ret ?_
   have hin : i = qs.length := by have h : ¬ (i : Int) < (qs.length : Int) := ht16; omega
   refine TQ.thaw hz2 ?_
   refine TQ.thaw hz1 ?_
   refine TQ.heap (η' := (lg :: sg :: segs) ++ [(b5, Obj.cells #[.int .i64 0] 24 (0, 0))] :: ((og :: outs.reverse.map (·.2)) ++ η)) (by simp) ?_
   refine TQ.hperm ([(b5, Obj.cells #[.int .i64 0] 24 (0, 0))] :: ((lg :: sg :: segs) ++ ((og :: outs.reverse.map (·.2)) ++ η))) ((List.perm_middle (l₁ := lg :: sg :: segs)).symm) ?_
   refine TQ.retL [4] _ stop42 (stopped_nil _) rfl rfl rfl (own_mem (e := ERR) (fz := (0, 0)) (cs := #[.int .i64 0]) List.mem_cons_self rfl) ?_
   have e : ordersS (m : Int) l = ((chainsR L).map (orderS m), 0) := by unfold ordersS; rw [if_pos hk, Int.toNat_natCast, ← hLe]
   rw [e]
   refine ⟨oa, oc, outs.map (·.1), [(b5, Obj.cells #[.int .i64 0] 24 (0, 0))] :: ((lg :: sg :: segs) ++ (og :: outs.reverse.map (·.2))), by rw [List.length_map]; rfl, ?_, hol.ll (by simp) (fun t ht => by simp only [List.mem_append, List.mem_cons, List.mem_map, List.mem_reverse]; right; right; right; exact ⟨t, ht, rfl⟩), by simp [List.append_assoc]⟩
   unfold tx
   rw [List.map_map]
   have h1 : (outs.map fun t => t.1.2.1) = (chainsR L).map (orderS m) := by rw [hto, hin, List.take_of_length_le (by rw [tx_len]; omega), htq]
   exact h1
 ·rintro _ _ ⟨he, rfl, rfl⟩
  refine TQ.then_p ?_
  refine TQ.then_p ?_
  refine TQ.panL [4] [.slice none 0 0] stop42 (stopped_err _) rfl rfl rfl (At.own' (i := 0) rfl rfl) ?_
  have e : ordersS cols l = ([], checkE cols l) := by unfold ordersS; rw [if_neg he]
  rw [e]; exact ⟨none, 0, [], [_], rfl, rfl, LL.none, rfl⟩
end Go.Proofs.YtfnalecnnmkgbaaDoor
/- What an order serves: by how many columns a search has. -/
namespace Go.Proofs.YtfnalecnnmkgbaaDoor
open Go.Sl
/-- How many columns a search has. -/
def popN (x : Nat) : Nat := cnt 10 fun i => x.testBit i
def orF (l : List Int) : Nat := l.foldl (fun f x => f ||| 2 ^ x.toNat) 0
theorem orF_app (l : List Int) (x : Int) : orF (l ++ [x]) = orF l ||| 2 ^ x.toNat := by unfold orF; rw [List.foldl_append]; rfl
theorem orF_take {l : List Int} {k : Nat} (h : k < l.length) : orF (l.take (k + 1)) = orF (l.take k) ||| 2 ^ (l[k]).toNat := by rw [List.take_succ_eq_append_getElem h, orF_app]
/-- Some of the columns, each once. -/
structure Cols (n : Nat) (l : List Int) : Prop where
  nd : l.Nodup
  rg : ∀ x ∈ l, 0 ≤ x ∧ x < (n : Int)
theorem orF_bit {n : Nat} {l : List Int} (h : Cols n l) : ∀ k, k ≤ l.length → ∀ c : Nat, (orF (l.take k)).testBit c = decide ((c : Int) ∈ l.take k)
  | 0, _, c => by simp [orF]
  | k + 1, hk, c => by
    have hr := h.rg _ (List.getElem_mem (show k < l.length by omega))
    rw [orF_take (by omega), Nat.testBit_or, orF_bit h k (by omega) c, Nat.testBit_two_pow, List.take_succ_eq_append_getElem (by omega), Bool.eq_iff_iff, Bool.or_eq_true, decide_eq_true_eq, decide_eq_true_eq, decide_eq_true_eq, List.mem_append, List.mem_singleton]
    constructor
    · rintro (q | q)
      · exact .inl q
      · right; omega
    · rintro (q | q)
      · exact .inl q
      · right; omega
theorem cnt_one : ∀ x, x < 10 → cnt 10 (fun i => decide (i = x)) = 1 := by decide
theorem popN_or {f x : Nat} (hx : x < 10) (h : f.testBit x = false) : popN (f ||| 2 ^ x) = popN f + 1 := by
  unfold popN
  have e : cnt 10 (fun i => (f ||| 2 ^ x).testBit i) = cnt 10 fun i => f.testBit i || decide (i = x) := cnt_congr fun i _ => by
    rw [Nat.testBit_or, Nat.testBit_two_pow]
    congr 1
    rw [Bool.eq_iff_iff, decide_eq_true_eq, decide_eq_true_eq]; omega
  rw [e, cnt_or (fun i _ hp => by
    refine decide_eq_false fun q => ?_
    subst q; rw [h] at hp; cases hp), cnt_one x hx]
theorem popN_orF {n : Nat} (hn : n ≤ 10) {l : List Int} (h : Cols n l) : ∀ k, k ≤ l.length → popN (orF (l.take k)) = k
  | 0, _ => by rw [List.take_zero]; decide
  | k + 1, hk => by
    have hr := h.rg _ (List.getElem_mem (show k < l.length by omega))
    rw [orF_take (by omega), popN_or (by omega), popN_orF hn h k (by omega)]
    rw [orF_bit h k (by omega), decide_eq_false]
    intro hm
    obtain ⟨i, hi, he⟩ := List.mem_take_iff_getElem.1 hm
    have e2 : l[i]'(by omega) = l[k]'(by omega) := by omega
    exact List.pairwise_iff_getElem.1 h.nd i k (by omega) (by omega) (by omega) e2
/-- What is made goes on as long as it is a part. -/
theorem srv_some {s : Nat} {l : List Int} : ∀ (d k : Nat), k + d = l.length → ∃ j, k ≤ j ∧ j ≤ l.length ∧ srv s (l.drop k) (orF (l.take k)) = orF (l.take j)
  | 0, k, h => ⟨k, Nat.le_refl _, by omega, by rw [List.drop_of_length_le (by omega)]; rfl⟩
  | d + 1, k, h => by
    rw [drop_step (show k < l.length by omega)]
    by_cases hs : orF (l.take k) &&& s = orF (l.take k) ∧ orF (l.take k) ≠ s
    · rw [srv_step hs.1 hs.2, ← orF_take]
      obtain ⟨j, h1, h2, h3⟩ := srv_some (s := s) (l := l) d (k + 1) (by omega)
      exact ⟨j, by omega, h2, h3⟩
    · rw [srv_stop hs]
      exact ⟨k, Nat.le_refl _, by omega, rfl⟩
theorem srv_at {s : Nat} {l : List Int} : ∀ (d k : Nat), k + d ≤ l.length → (∀ j, k ≤ j → j < k + d → orF (l.take j) &&& s = orF (l.take j) ∧ orF (l.take j) ≠ s) → orF (l.take (k + d)) = s → srv s (l.drop k) (orF (l.take k)) = s
  | 0, k, h, _, he => by
    rw [Nat.add_zero] at he
    rw [srv_stop (fun q => q.2 he)]; exact he
  | d + 1, k, h, hp, he => by
    have hk := hp k (Nat.le_refl _) (by omega)
    rw [drop_step (show k < l.length by omega), srv_step hk.1 hk.2, ← orF_take]
    exact srv_at d (k + 1) (by omega) (fun j h1 h2 => hp j (by omega) (by omega)) (by rw [show k + 1 + d = k + (d + 1) by omega]; exact he)
theorem orF_part {n : Nat} {l : List Int} (h : Cols n l) {j k : Nat} (hj : j ≤ k) (hk : k ≤ l.length) : orF (l.take j) &&& orF (l.take k) = orF (l.take j) := by
  refine Nat.eq_of_testBit_eq fun c => ?_
  rw [Nat.testBit_and, orF_bit h j (by omega), orF_bit h k hk, Bool.eq_iff_iff, Bool.and_eq_true, decide_eq_true_eq, decide_eq_true_eq]
  refine ⟨fun q => q.1, fun q => ⟨q, ?_⟩⟩
  have e : l.take j = (l.take k).take j := by rw [List.take_take, Nat.min_eq_left hj]
  rw [e] at q
  exact List.mem_of_mem_take q
theorem serves_same {n : Nat} (hn : n ≤ 10) {l : List Int} (h : Cols n l) {s : Nat} (hp : popN s ≤ l.length) : srv s l 0 = s ↔ orF (l.take (popN s)) = s := by
  have h0 : ∀ f, srv s (l.drop 0) (orF (l.take 0)) = f ↔ srv s l 0 = f := fun f => by rw [List.drop_zero, List.take_zero]; rfl
  constructor
  · intro e
    obtain ⟨j, _, hj, h1⟩ := srv_some (s := s) (l := l) l.length 0 (by omega)
    rw [(h0 _).2 e] at h1
    have h2 := popN_orF hn h j hj
    rw [← h1] at h2
    rw [h2]; exact h1.symm
  · intro e
    refine (h0 _).1 (srv_at (popN s) 0 (by omega) (fun j _ hj => ⟨?_, fun q => ?_⟩) (by rw [Nat.zero_add]; exact e))
    · have := orF_part h (j := j) (k := popN s) (by omega) hp
      rw [e] at this; exact this
    · have h2 := popN_orF hn h j (by omega)
      rw [q] at h2; omega
/-- A search has not more columns than there are. -/
theorem popN_le {n s : Nat} (hs : s < 2 ^ n) : popN s ≤ n := by
  unfold popN
  refine Nat.le_trans (cnt_inj (n := n) (q := fun _ => true) id (fun i _ hp => ⟨?_, rfl⟩) (fun _ _ _ _ _ _ e => e)) cnt_le
  refine Nat.lt_of_not_le fun hle => ?_
  have hp : s.testBit i = true := hp
  have hle : n ≤ i := hle
  rw [Nat.testBit_lt_two_pow (Nat.lt_of_lt_of_le hs (Nat.pow_le_pow_right (by decide) hle))] at hp
  cases hp
/-- What lists all columns has each once, and the other way round. -/
theorem isOrd_cols {l : List Int} (h : isOrd l = true) : Cols l.length l := by
  refine ⟨?_, ord_range h⟩
  have h1 : ((List.range l.length).map fun (c : Nat) => (c : Int)).Nodup := List.pairwise_map.2 (List.nodup_range.imp fun h e => h (by omega))
  have hsub : ∀ y ∈ ((List.range l.length).map fun (c : Nat) => (c : Int)), y ∈ l := fun y hy => by
    obtain ⟨c, hc, rfl⟩ := List.mem_map.1 hy
    exact of_decide_eq_true (List.all_eq_true.1 h c hc)
  refine List.pairwise_iff_getElem.2 fun i j hi hj hij he => ?_
  have h2 := h1.length_le_of_subset (l₂ := l.eraseIdx i) (fun y hy => by
    obtain ⟨p, hp, rfl⟩ := List.getElem_of_mem (hsub y hy)
    rw [List.mem_eraseIdx_iff_getElem]
    by_cases e : p = i
    · subst e; exact ⟨j, hj, by omega, he.symm⟩
    · exact ⟨p, hp, e, rfl⟩)
  rw [List.length_eraseIdx, if_pos hi, List.length_map, List.length_range] at h2
  omega
theorem cols_isOrd {l : List Int} (h : Cols l.length l) : isOrd l = true := by
  refine List.all_eq_true.2 fun c hc => decide_eq_true ?_
  have hc := List.mem_range.1 hc
  refine Decidable.byContradiction fun hn => ?_
  have h1 := h.nd.length_le_of_subset (l₂ := ((List.range l.length).map fun (c : Nat) => (c : Int)).erase (c : Int)) (fun y hy => by
    have hr := h.rg y hy
    refine (List.mem_erase_of_ne (a := y) (b := (c : Int)) (fun e => hn (by rw [← e]; exact hy))).2 (List.mem_map.2 ⟨y.toNat, List.mem_range.2 (by omega), by omega⟩))
  rw [List.length_erase_of_mem (List.mem_map.2 ⟨c, List.mem_range.2 hc, rfl⟩), List.length_map, List.length_range] at h1
  omega
end Go.Proofs.YtfnalecnnmkgbaaDoor
/- How many columns a search has; what an order serves, by the program. -/
namespace Go.Proofs.YtfnalecnnmkgbaaDoor
open Go.Sl
variable {S : Nat → Prop} {w0 : World} {η : Heap}
def p1 (x : Nat) : Nat := (x / 2 ^ 1 &&& 6148914691236517205) + (x &&& 6148914691236517205)
def p2 (x : Nat) : Nat := (p1 x / 2 ^ 2 &&& 3689348814741910323) + (p1 x &&& 3689348814741910323)
def p3 (x : Nat) : Nat := (p2 x / 2 ^ 4 + p2 x) &&& 1085102592571150095
def p4 (x : Nat) : Nat := p3 x + p3 x / 2 ^ 8
def p5 (x : Nat) : Nat := p4 x + p4 x / 2 ^ 16
def p6 (x : Nat) : Nat := p5 x + p5 x / 2 ^ 32
structure PB (x : Nat) : Prop where
 a : p1 x < 1535
 b : p2 x < 1920
 c : p3 x < 2048
 d : p4 x < 3000
 e : p5 x < 4000
 f : p6 x < 5000
theorem p_bound {x : Nat} (h : x < 1024) : PB x := by
 have a : p1 x < 1535 := by
  unfold p1
  have h1 : x / 2 ^ 1 &&& 6148914691236517205 ≤ x / 2 ^ 1 := Nat.and_le_left
  have h2 : x &&& 6148914691236517205 ≤ x := Nat.and_le_left
  omega
 have b : p2 x < 1920 := by
  unfold p2
  have h1 : p1 x / 2 ^ 2 &&& 3689348814741910323 ≤ p1 x / 2 ^ 2 := Nat.and_le_left
  have h2 : p1 x &&& 3689348814741910323 ≤ p1 x := Nat.and_le_left
  omega
 have c : p3 x < 2048 := by
  unfold p3
  have h1 : (p2 x / 2 ^ 4 + p2 x) &&& 1085102592571150095 ≤ p2 x / 2 ^ 4 + p2 x := Nat.and_le_left
  omega
 have d : p4 x < 3000 := by unfold p4; omega
 have e : p5 x < 4000 := by unfold p5; omega
 have f : p6 x < 5000 := by unfold p6; omega
 exact ⟨a, b, c, d, e, f⟩
theorem addU {a b : Nat} (h : a + b < 18446744073709551616) : IntKind.u64.wrap ((a : Int) + (b : Int)) = ((a + b : Nat) : Int) := by
 rw [← Int.natCast_add]; exact wrap_u64 (by omega) (by omega)
theorem pop_all : ((List.range 1024).all fun x => decide (p6 x &&& 127 = popN x)) = true := by kernel_rfl
theorem pop_eq {x : Nat} (h : x < 1024) : p6 x &&& 127 = popN x := of_decide_eq_true (List.all_eq_true.1 pop_all x (List.mem_range.2 h))
set_option maxHeartbeats 2000000 in
theorem Ones64_fn {x : Nat} (hx : x < 1024) :
  Rt Tryd.prog 68 [.int .u64 (x : Int)].toArray S w0 η (fun v η' => v = .int .i64 ((popN x : Nat) : Int) ∧ η' = η) := by
 have hF := open_wide
 refine Rt.of (fn := Tryd.f68) Tryd.func68 rfl rfl ?_
 refine T.seq ?_
 refine T.region ?_
 refine TL.assign hF rfl rfl ?_
 refine TL.nil ?_
 refine TQ.then_n ?_
 refine T.seq ?_
 refine T.region ?_
 refine TL.move hF rfl rfl ?_
 have hpb := p_bound hx
 have q1 := hpb.a
 have q2 := hpb.b
 have q3 := hpb.c
 have q4 := hpb.d
 have q5 := hpb.e
 have q6 := hpb.f
 refine TL.shrN hF (a := x) (s := 1) rfl rfl (by decide) rfl ?_
 refine TL.andN hF (a := x / 2 ^ 1) (m := 6148914691236517205) rfl rfl rfl (by show _ < 18446744073709551616; omega) (by decide) rfl ?_
 refine TL.move hF rfl rfl ?_
 refine TL.andN hF (a := x) (m := 6148914691236517205) rfl rfl rfl (by show _ < 18446744073709551616; omega) (by decide) rfl ?_
 have h1 : x / 2 ^ 1 &&& 6148914691236517205 ≤ x / 2 ^ 1 := Nat.and_le_left
 have h2 : x &&& 6148914691236517205 ≤ x := Nat.and_le_left
 refine TL.addK hF rfl rfl (r := ((p1 x : Nat) : Int)) (addU (by omega)) rfl ?_
 refine TL.assign hF rfl rfl ?_
 refine TL.nil ?_
 refine TQ.then_n ?_
 refine T.seq ?_
 refine T.region ?_
 refine TL.move hF rfl rfl ?_
 refine TL.shrN hF (a := p1 x) (s := 2) rfl rfl (by decide) rfl ?_
 refine TL.andN hF (a := p1 x / 2 ^ 2) (m := 3689348814741910323) rfl rfl rfl (by show _ < 18446744073709551616; omega) (by decide) rfl ?_
 refine TL.move hF rfl rfl ?_
 refine TL.andN hF (a := p1 x) (m := 3689348814741910323) rfl rfl rfl (by show _ < 18446744073709551616; omega) (by decide) rfl ?_
 have h3 : p1 x / 2 ^ 2 &&& 3689348814741910323 ≤ p1 x / 2 ^ 2 := Nat.and_le_left
 have h4 : p1 x &&& 3689348814741910323 ≤ p1 x := Nat.and_le_left
 refine TL.addK hF rfl rfl (r := ((p2 x : Nat) : Int)) (addU (by omega)) rfl ?_
 refine TL.assign hF rfl rfl ?_
 refine TL.nil ?_
 refine TQ.then_n ?_
 refine T.seq ?_
 refine T.region ?_
 refine TL.move hF rfl rfl ?_
 refine TL.shrN hF (a := p2 x) (s := 4) rfl rfl (by decide) rfl ?_
 refine TL.move hF rfl rfl ?_
 refine TL.addK hF rfl rfl (r := ((p2 x / 2 ^ 4 + p2 x : Nat) : Int)) (addU (by omega)) rfl ?_
 refine TL.andN hF (a := p2 x / 2 ^ 4 + p2 x) (m := 1085102592571150095) rfl rfl rfl (by show _ < 18446744073709551616; omega) (by decide) rfl ?_
 rw [show (p2 x / 2 ^ 4 + p2 x &&& 1085102592571150095) = p3 x from rfl]
 refine TL.assign hF rfl rfl ?_
 refine TL.nil ?_
 refine TQ.then_n ?_
 refine T.seq ?_
 refine T.region ?_
 refine TL.move hF rfl rfl ?_
 refine TL.move hF rfl rfl ?_
 refine TL.shrN hF (a := p3 x) (s := 8) rfl rfl (by decide) rfl ?_
 refine TL.addK hF rfl rfl (r := ((p4 x : Nat) : Int)) (addU (by omega)) rfl ?_
 refine TL.assign hF rfl rfl ?_
 refine TL.nil ?_
 refine TQ.then_n ?_
 refine T.seq ?_
 refine T.region ?_
 refine TL.move hF rfl rfl ?_
 refine TL.move hF rfl rfl ?_
 refine TL.shrN hF (a := p4 x) (s := 16) rfl rfl (by decide) rfl ?_
 refine TL.addK hF rfl rfl (r := ((p5 x : Nat) : Int)) (addU (by omega)) rfl ?_
 refine TL.assign hF rfl rfl ?_
 refine TL.nil ?_
 refine TQ.then_n ?_
 refine T.seq ?_
 refine T.region ?_
 refine TL.move hF rfl rfl ?_
 refine TL.move hF rfl rfl ?_
 refine TL.shrN hF (a := p5 x) (s := 32) rfl rfl (by decide) rfl ?_
 refine TL.addK hF rfl rfl (r := ((p6 x : Nat) : Int)) (addU (by omega)) rfl ?_
 refine TL.assign hF rfl rfl ?_
 refine TL.nil ?_
 refine TQ.then_n ?_
 refine T.seq ?_
 refine T.region ?_
 refine TL.move hF rfl rfl ?_
 refine TL.convK hF (r := ((p6 x : Nat) : Int)) rfl (wrap_i64 (by omega) (by omega)) rfl ?_
 refine TL.andS hF (a := p6 x) (m := 127) rfl rfl (by omega) (by omega) rfl ?_
 refine TL.assign hF rfl rfl ?_
 refine TL.nil ?_
 refine TQ.then_n ?_
 refine T.ret ?_
 refine TQ.rets [2] _ rfl rfl rfl ?_
 exact ⟨by rw [← pop_eq hx]; rfl, rfl⟩
set_option maxHeartbeats 2000000 in
theorem Ones_fn {x : Nat} (hx : x < 1024) :
  Rt Tryd.prog 56 [.int .u64 (x : Int)].toArray S w0 η (fun v η' => v = .int .i64 ((popN x : Nat) : Int) ∧ η' = η) := by
 have hF := open_wide
 refine Rt.of (fn := Tryd.f56) Tryd.func56 rfl rfl ?_
 refine T.seq ?_
 refine T.region ?_
 refine TL.assign hF rfl rfl ?_
 refine TL.nil ?_
 refine TQ.then_n ?_
 refine T.seq ?_
 refine T.cond_f rfl rfl ?_
 refine T.skip ?_
 refine TQ.then_n ?_
 refine T.seq ?_
 refine T.region ?_
 refine TL.move hF rfl rfl ?_
 refine TL.callV hF (Ones64_fn hx) rfl rfl ?_
 refine TL.assign hF rfl rfl ?_
 refine TL.nil ?_
 refine TQ.then_n ?_
 refine T.ret ?_
 refine TQ.rets [2] _ rfl rfl rfl ?_
 exact ⟨rfl, rfl⟩
set_option maxHeartbeats 2000000 in
theorem Serves_prog {a : Option Addr} {l : List Int} {c : Nat} (s : Int) (hx : Row S w0 [] a (ints l)) (hl : l.length < 2 ^ 63) (hc : l.length ≤ c) :
  Rt Tryd.prog 24 [.slice a l.length c, .int .i64 s].toArray S w0 η (fun v η' => v = .tuple #[.bool (servesS l s).1, .int .i64 (servesS l s).2] ∧ ∃ segs, η' = segs ++ η) := by
 have hF := open_wide
 refine Rt.ofL (fn := Tryd.f24) Tryd.func24 rfl rfl ?_
 refine T.seq ?_
 refine T.region ?_
 refine TL.assign hF rfl rfl ?_
 refine TL.alloc hF rfl (fun b5 => ?_)
 refine TL.nil ?_
 refine TQ.then_n ?_
 refine T.seq ?_
 refine T.region ?_
 refine TL.makeFunc hF rfl rfl rfl ?_
 refine TL.defer hF rfl rfl ?_
 refine TL.nil ?_
 refine TQ.then_n ?_
 refine T.seq ?_
 refine T.region ?_
 refine TL.move hF rfl rfl ?_
 refine TL.len hF rfl rfl ?_
 refine TL.bin hF rfl rfl rfl rfl ?_
 refine TL.move hF rfl rfl ?_
 refine TL.gd (t := 16) rfl (fun g2_16 => ?_) (fun g2_16 => ?_)
 ·refine TL.on rfl rfl rfl (decide_eq_true g2_16) ?_
  refine TL.move hF rfl rfl ?_
  refine TL.on rfl rfl rfl (decide_eq_true g2_16) ?_
  refine TL.len hF rfl rfl ?_
  refine TL.on rfl rfl rfl (decide_eq_true g2_16) ?_
  refine TL.bin hF rfl rfl rfl rfl ?_
  refine TL.pickT hF rfl (decide_eq_true g2_16) rfl rfl ?_
  refine TL.callM hF (must_fn _ 1) rfl rfl (fun hA _ => ?_) (fun hA => ?_)
  ·skip
   refine TL.nil ?_
   refine TQ.then_n ?_
   refine T.seq ?_
   refine T.region ?_
   refine TL.alloc hF rfl (fun b6 => ?_)
   refine TL.nil ?_
   refine TQ.then_n ?_
   refine T.seq ?_
   refine T.seq ?_
   refine T.region ?_
   refine TL.move hF rfl rfl ?_
   refine TL.len hF rfl rfl ?_
   refine TL.move hF rfl rfl ?_
   refine TL.nil ?_
   refine TQ.then_n ?_
   refine T.block ?_
   have hA2 : l.length ≤ 10 := by have := of_decide_eq_true hA; omega
   have hA1 : 1 ≤ l.length := by omega
   refine T.heap (η' := [(b6, Obj.cells (rowC 10 (fun c : Nat => decide ((c : Int) ∈ l.take 0))).toArray 71 (0, 0))] :: [(b5, Obj.cells #[.int .i64 0] 24 (0, 0))] :: η) (by rfl) ?_
   refine T.loop (ι := Nat) (fun i => i ≤ l.length ∧ (l.take i).Nodup ∧ ∀ x ∈ l.take i, 0 ≤ x ∧ x < (l.length : Int)) (fun i => [(0, .slice a l.length c), (1, .int .i64 s), (4, .bool false), (5, ptr b5), (6, ptr b6), (22, .slice a l.length c), (23, .int .i64 (l.length : Int)), (24, .int .i64 (i : Int))]) (fun i => [(b6, Obj.cells (rowC 10 (fun c : Nat => decide ((c : Int) ∈ l.take i))).toArray 71 (0, 0))] :: [(b5, Obj.cells #[.int .i64 0] 24 (0, 0))] :: η) (fun i => l.length - i) 0 ⟨Nat.zero_le _, by simp, by simp⟩ ⟨rfl, rfl, rfl, rfl, rfl, rfl, rfl, rfl, trivial⟩ rfl ?_
   rintro i ⟨hi, hnd, hrg⟩
   refine T.seq ?_
   refine T.region ?_
   refine TL.bin hF rfl rfl rfl rfl ?_
   refine TL.nil ?_
   refine TQ.then_n ?_
   refine T.seq ?_
   first | refine T.cond_d rfl (fun ht25 => ?_) (fun ht25 => ?_) | refine T.cond _ rfl (fun ht25 => ?_) (fun ht25 => ?_)
   ·refine T.skip ?_
    refine TQ.then_n ?_
    refine T.seq ?_
    refine T.block ?_
    refine T.seq ?_
    refine T.region ?_
    have hil : i < l.length := by have h : (i : Int) < (l.length : Int) := ht25; omega
    refine TL.indexAddr hF rfl rfl (hx.adi (i := i) (by simp; omega)) (by omega) (by omega) rfl ?_
    refine TL.load hF rfl (hx.ro.int (i := i) hil) rfl ?_
    refine TL.assign hF rfl rfl ?_
    refine TL.nil ?_
    refine TQ.then_n ?_
    refine T.seq ?_
    refine T.region ?_
    refine TL.move hF rfl rfl ?_
    refine TL.bin hF rfl rfl rfl rfl ?_
    refine TL.move hF rfl rfl ?_
    refine TL.gd (t := 30) rfl (fun g7_30 => ?_) (fun g7_30 => ?_)
    ·refine TL.on rfl rfl rfl (decide_eq_true g7_30) ?_
     refine TL.move hF rfl rfl ?_
     refine TL.on rfl rfl rfl (decide_eq_true g7_30) ?_
     refine TL.move hF rfl rfl ?_
     refine TL.on rfl rfl rfl (decide_eq_true g7_30) ?_
     refine TL.len hF rfl rfl ?_
     refine TL.on rfl rfl rfl (decide_eq_true g7_30) ?_
     refine TL.bin hF rfl rfl rfl rfl ?_
     refine TL.pickT hF rfl (decide_eq_true g7_30) rfl rfl ?_
     refine TL.move hF rfl rfl ?_
     refine TL.gd (t := 36) rfl (fun g7_36 => ?_) (fun g7_36 => ?_)
     ·refine TL.on rfl rfl rfl (decide_eq_true g7_36) ?_
      refine TL.move hF rfl rfl ?_
      refine TL.on rfl rfl rfl (decide_eq_true g7_36) ?_
      refine TL.indexAddrA hF rfl rfl (by omega) (by omega) rfl ?_
      refine TL.on rfl rfl rfl (decide_eq_true g7_36) ?_
      obtain ⟨x, hxe⟩ : ∃ x : Nat, l[i] = (x : Int) := ⟨l[i].toNat, by omega⟩
      refine TL.load hF rfl (v := .bool (decide ((x : Int) ∈ l.take i))) (own_mem (e := 71) (fz := (0, 0)) (cs := (rowC 10 (fun c : Nat => decide ((c : Int) ∈ l.take i))).toArray) (by simp) (by rw [hxe]; simpa using rowC_get (n := 10) (f := (fun c : Nat => decide ((c : Int) ∈ l.take i))) (j := x) (by omega))) rfl ?_
      refine TL.on rfl rfl rfl (decide_eq_true g7_36) ?_
      refine TL.not hF rfl rfl ?_
      refine TL.pickT hF rfl (decide_eq_true g7_36) rfl rfl ?_
      refine TL.callM hF (must_fn _ 1) rfl rfl (fun hB _ => ?_) (fun hB => ?_)
      ·skip
       refine TL.nil ?_
       refine TQ.then_n ?_
       refine T.region ?_
       refine TL.move hF rfl rfl ?_
       refine TL.indexAddrA hF rfl rfl (by omega) (by omega) rfl ?_
       refine TL.storeI hF 0 rfl rfl rfl rfl (by simp [rowC_len]; omega) ?_
       refine TL.nil ?_
       refine TQ.block_n ?_
       refine TQ.then_n ?_
       refine T.region ?_
       refine TL.add hF rfl rfl (by omega) (by omega) rfl ?_
       refine TL.move hF rfl rfl ?_
       refine TL.nil ?_
       have hni : l[i] ∉ l.take i := by
        rw [hxe]; intro hm; rw [decide_eq_true hm] at hB; cases hB
       have ht : l.take (i + 1) = l.take i ++ [l[i]] := List.take_succ_eq_append_getElem hil
       have hhp : ∀ k0, k0 = x → ([(b6, Obj.cells ((rowC 10 (fun c : Nat => decide ((c : Int) ∈ l.take i))).toArray.setIfInBounds k0 (.bool true)) 71 (0, 0))] : Seg) = [(b6, Obj.cells (rowC 10 (fun c : Nat => decide ((c : Int) ∈ l.take (i + 1)))).toArray 71 (0, 0))] := by
        rintro k0 rfl
        rw [rowC_set (f := (fun c : Nat => decide ((c : Int) ∈ l.take i))) (g := (fun c : Nat => decide ((c : Int) ∈ l.take (i + 1)))) (fun k _ => by
         rw [ht, hxe]
         by_cases e : k = k0
         ·subst e; simp
         ·rw [if_neg e, Bool.eq_iff_iff, decide_eq_true_eq, decide_eq_true_eq, List.mem_append, List.mem_singleton]
          exact ⟨fun q => q.elim id (fun q => by omega), .inl⟩)]
       refine TQ.heap (congrArg (fun z : Seg => z :: [(b5, Obj.cells #[.int .i64 0] 24 (0, 0))] :: η) (hhp _ (by rw [hxe]; simp))) ?_
       refine TQ.round (i + 1) ⟨by omega, ?_, ?_⟩ (by omega) ⟨rfl, rfl, rfl, rfl, rfl, rfl, rfl, rfl, trivial⟩ rfl
       ·rw [ht]
        refine List.nodup_append.2 ⟨hnd, by simp, fun p hp q hq e => ?_⟩
        rw [List.mem_singleton.1 hq] at e
        exact hni (e ▸ hp)
       ·intro p hp
        rw [ht] at hp
        rcases List.mem_append.1 hp with h | h
        ·exact hrg p h
        ·rw [List.mem_singleton.1 h]; omega
      ·skip
       refine TQ.then_p ?_
       refine TQ.block_p ?_
       refine TQ.then_p ?_
       refine TQ.then_p ?_
       refine TQ.block_p ?_
       refine TQ.then_p ?_
       have hno : isOrd l = false := by
        cases h : isOrd l with
        | false => rfl
        | true =>
         exfalso
         have hcl := isOrd_cols h
         have hr := hcl.rg _ (List.getElem_mem hil)
         have hm : l[i] ∈ l.take i := by
          rw [hxe]
          refine Decidable.byContradiction fun q => ?_
          rw [decide_eq_false q] at hB; cases hB
         obtain ⟨j, hj, he⟩ := List.mem_take_iff_getElem.1 hm
         exact List.pairwise_iff_getElem.1 hcl.nd j i (by omega) hil (by omega) he
       refine TQ.pop ?_
       refine TQ.panL [4] [.bool false] stop54 (stopped_err _) rfl rfl rfl (At.own' (i := 0) rfl rfl) ?_
       have e : servesS l s = (false, 1) := by unfold servesS; rw [if_pos (.inr (.inr hno))]
       rw [e]; exact ⟨rfl, [_], rfl⟩
     ·refine TL.off hF rfl rfl rfl (decide_eq_false g7_36) rfl ?_
      refine TL.off hF rfl rfl rfl (decide_eq_false g7_36) rfl ?_
      refine TL.off hF rfl rfl rfl (decide_eq_false g7_36) rfl ?_
      refine TL.off hF rfl rfl rfl (decide_eq_false g7_36) rfl ?_
      refine TL.pickF hF rfl (decide_eq_false g7_36) rfl rfl ?_
      refine TL.callE hF (must_no 1) rfl rfl (fun _ _ h => h.elim) ?_
      rintro _ _ ⟨rfl, rfl⟩
      refine TQ.then_p ?_
      refine TQ.block_p ?_
      refine TQ.then_p ?_
      refine TQ.then_p ?_
      refine TQ.block_p ?_
      refine TQ.then_p ?_
      have hno : isOrd l = false := by
       cases h : isOrd l with
       | false => rfl
       | true =>
        exfalso
        have hcl := isOrd_cols h
        have hr := hcl.rg _ (List.getElem_mem hil)
        omega
      refine TQ.pop ?_
      refine TQ.panL [4] [.bool false] stop54 (stopped_err _) rfl rfl rfl (At.own' (i := 0) rfl rfl) ?_
      have e : servesS l s = (false, 1) := by unfold servesS; rw [if_pos (.inr (.inr hno))]
      rw [e]; exact ⟨rfl, [_], rfl⟩
    ·refine TL.off hF rfl rfl rfl (decide_eq_false g7_30) rfl ?_
     refine TL.off hF rfl rfl rfl (decide_eq_false g7_30) rfl ?_
     refine TL.off hF rfl rfl rfl (decide_eq_false g7_30) rfl ?_
     refine TL.off hF rfl rfl rfl (decide_eq_false g7_30) rfl ?_
     refine TL.pickF hF rfl (decide_eq_false g7_30) rfl rfl ?_
     refine TL.move hF rfl rfl ?_
     refine TL.off hF rfl rfl rfl rfl rfl ?_
     refine TL.off hF rfl rfl rfl rfl rfl ?_
     refine TL.off hF rfl rfl rfl rfl rfl ?_
     refine TL.off hF rfl rfl rfl rfl rfl ?_
     refine TL.pickF hF rfl rfl rfl rfl ?_
     refine TL.callE hF (must_no 1) rfl rfl (fun _ _ h => h.elim) ?_
     rintro _ _ ⟨rfl, rfl⟩
     refine TQ.then_p ?_
     refine TQ.block_p ?_
     refine TQ.then_p ?_
     refine TQ.then_p ?_
     refine TQ.block_p ?_
     refine TQ.then_p ?_
     have hno : isOrd l = false := by
      cases h : isOrd l with
      | false => rfl
      | true =>
       exfalso
       have hcl := isOrd_cols h
       have hr := hcl.rg _ (List.getElem_mem hil)
       omega
     refine TQ.pop ?_
     refine TQ.panL [4] [.bool false] stop54 (stopped_err _) rfl rfl rfl (At.own' (i := 0) rfl rfl) ?_
     have e : servesS l s = (false, 1) := by unfold servesS; rw [if_pos (.inr (.inr hno))]
     rw [e]; exact ⟨rfl, [_], rfl⟩
   ·refine T.exit ?_
    refine TQ.then_x ?_
    refine TQ.then_x ?_
    refine TQ.block_x ?_
    refine TQ.then_n ?_
    refine T.seq ?_
    refine T.region ?_
    refine TL.move hF rfl rfl ?_
    refine TL.bin hF rfl rfl rfl rfl ?_
    refine TL.move hF rfl rfl ?_
    refine TL.gd (t := 48) rfl (fun g10_48 => ?_) (fun g10_48 => ?_)
    ·refine TL.on rfl rfl rfl (decide_eq_true g10_48) ?_
     refine TL.move hF rfl rfl ?_
     refine TL.on rfl rfl rfl (decide_eq_true g10_48) ?_
     refine TL.move hF rfl rfl ?_
     refine TL.on rfl rfl rfl (decide_eq_true g10_48) ?_
     refine TL.len hF rfl rfl ?_
     refine TL.on rfl rfl rfl (decide_eq_true g10_48) ?_
     have hp2 := two_pow hA2
     refine TL.shlS hF (a := 1) (s := l.length) rfl rfl (by omega) (by omega) rfl ?_
     refine TL.on rfl rfl rfl (decide_eq_true g10_48) ?_
     refine TL.bin hF rfl rfl rfl rfl ?_
     refine TL.pickT hF rfl (decide_eq_true g10_48) rfl rfl ?_
     refine TL.callM hF (must_fn _ 2) rfl rfl (fun hC _ => ?_) (fun hC => ?_)
     ·skip
      refine TL.nil ?_
      refine TQ.then_n ?_
      refine T.seq ?_
      refine T.region ?_
      refine TL.assign hF rfl rfl ?_
      refine TL.nil ?_
      refine TQ.then_n ?_
      refine T.seq ?_
      refine T.seq ?_
      refine T.region ?_
      refine TL.move hF rfl rfl ?_
      refine TL.move hF rfl rfl ?_
      have hin : i = l.length := by have h : ¬ (i : Int) < (l.length : Int) := ht25; omega
      subst hin
      rw [List.take_of_length_le (Nat.le_refl _)] at hnd hrg
      have hcl : Cols l.length l := ⟨hnd, hrg⟩
      have hC2 : s < ((2 ^ l.length : Nat) : Int) := by have := of_decide_eq_true hC; omega
      obtain ⟨t, hte⟩ : ∃ t : Nat, s = (t : Int) := ⟨s.toNat, by omega⟩
      have ht4 : t < 1024 := by omega
      have hpl : popN t ≤ l.length := popN_le (by omega)
      subst hte
      have hse : servesS l (t : Int) = (decide (((orF (l.take (popN t)) : Nat) : Int) = (t : Int)), 0) := by
       unfold servesS
       rw [if_neg (by rw [cols_isOrd hcl]; intro h; rcases h with h | h | h <;> first | omega | cases h), if_neg (by omega), Int.toNat_natCast]
       congr 1
       rw [Bool.eq_iff_iff, decide_eq_true_eq, decide_eq_true_eq, Int.ofNat_inj, Int.ofNat_inj]
       exact serves_same hA2 hcl hpl
      refine TL.convK hF (r := (t : Int)) rfl (wrap_u64 (by omega) (by omega)) rfl ?_
      refine TL.callV hF (Ones_fn ht4) rfl rfl ?_
      refine TL.slice hF (i := 0) (j := popN t) rfl rfl rfl (by omega) (by omega) rfl ?_
      refine TL.len hF rfl rfl ?_
      refine TL.move hF rfl rfl ?_
      refine TL.nil ?_
      refine TQ.then_n ?_
      refine T.block ?_
      have hrh := row_head hx hpl hc
      refine T.loop (ι := Nat) (fun k => k ≤ popN t ∧ orF (l.take k) < 1024) (fun k => [(1, .int .i64 (t : Int)), (4, .bool false), (5, ptr b5), (9, .int .i64 ((orF (l.take k) : Nat) : Int)), (60, .slice (if c = 0 then a else a.map (·.add (0 * 1))) (popN t - 0) (c - 0)), (61, .int .i64 ((popN t - 0 : Nat) : Int)), (62, .int .i64 (k : Int))]) (fun _ => [(b6, Obj.cells (rowC 10 (fun c : Nat => decide ((c : Int) ∈ l.take l.length))).toArray 71 (0, 0))] :: [(b5, Obj.cells #[.int .i64 0] 24 (0, 0))] :: η) (fun k => popN t - k) 0 ⟨Nat.zero_le _, by rw [List.take_zero]; decide⟩ ⟨rfl, rfl, rfl, rfl, rfl, rfl, rfl, trivial⟩ rfl ?_
      rintro k ⟨hk, hor⟩
      refine T.seq ?_
      refine T.region ?_
      refine TL.bin hF rfl rfl rfl rfl ?_
      refine TL.nil ?_
      refine TQ.then_n ?_
      refine T.seq ?_
      first | refine T.cond_d rfl (fun ht63 => ?_) (fun ht63 => ?_) | refine T.cond _ rfl (fun ht63 => ?_) (fun ht63 => ?_)
      ·refine T.skip ?_
       refine TQ.then_n ?_
       refine T.seq ?_
       refine T.block ?_
       refine T.seq ?_
       refine T.region ?_
       have hkp : k < popN t := by have h : (k : Int) < ((popN t - 0 : Nat) : Int) := ht63; omega
       have hkl : k < l.length := by omega
       have hcr := hrg _ (List.getElem_mem hkl)
       obtain ⟨x, hxe⟩ : ∃ x : Nat, l[k] = (x : Int) := ⟨l[k].toNat, by omega⟩
       have hx10 : x < 10 := by omega
       have hp2 : 2 ^ x ≤ 2 ^ 9 := Nat.pow_le_pow_right (by decide) (by omega)
       have hgt : (l.take (popN t))[k]'(by rw [List.length_take]; omega) = (x : Int) := by rw [List.getElem_take, hxe]
       refine TL.indexAddr hF rfl rfl (hrh.adi (i := k) (by rw [ints, List.length_map, List.length_take]; omega)) (by omega) (by omega) rfl ?_
       refine TL.load hF rfl (v := .int .i64 (x : Int)) (by rw [← hgt]; exact (hrh.ro.int (i := k) (by rw [List.length_take]; omega))) rfl ?_
       refine TL.assign hF rfl rfl ?_
       refine TL.nil ?_
       refine TQ.then_n ?_
       refine T.region ?_
       refine TL.move hF rfl rfl ?_
       refine TL.move hF rfl rfl ?_
       refine TL.shlS hF (a := 1) (s := x) rfl rfl (by omega) (by omega) rfl ?_
       rw [Nat.one_mul]
       refine TL.orS hF (a := orF (l.take k)) (m := 2 ^ x) rfl rfl (by omega) (by omega) rfl ?_
       refine TL.assign hF rfl rfl ?_
       refine TL.nil ?_
       refine TQ.block_n ?_
       refine TQ.then_n ?_
       refine T.region ?_
       refine TL.add hF rfl rfl (by omega) (by omega) rfl ?_
       refine TL.move hF rfl rfl ?_
       refine TL.nil ?_
       have e : orF (l.take (k + 1)) = orF (l.take k) ||| 2 ^ x := by rw [orF_take hkl, hxe, Int.toNat_natCast]
       refine TQ.round (k + 1) ⟨by omega, by rw [e]; exact Nat.or_lt_two_pow (n := 10) hor (by omega)⟩ (by omega) ⟨rfl, rfl, rfl, by rw [e]; rfl, rfl, rfl, rfl, trivial⟩ rfl
      ·refine T.exit ?_
       refine TQ.then_x ?_
       refine TQ.then_x ?_
       refine TQ.block_x ?_
       refine TQ.then_n ?_
       refine T.seq ?_
       refine T.region ?_
       refine TL.move hF rfl rfl ?_
       refine TL.move hF rfl rfl ?_
       refine TL.bin hF rfl rfl rfl rfl ?_
       refine TL.assign hF rfl rfl ?_
       refine TL.storeI hF 1 rfl rfl rfl rfl (by decide) ?_
       refine TL.nil ?_
       refine TQ.then_n ?_
       refine T.ret ?_
       have hkp : k = popN t := by have h : ¬ (k : Int) < ((popN t - 0 : Nat) : Int) := ht63; omega
       refine TQ.retL [4] _ stop54 (stopped_nil _) rfl rfl rfl (own_mem (e := ERR) (fz := (0, 0)) (cs := #[.int .i64 0]) (by simp) rfl) ?_
       rw [hse, ← hkp]; exact ⟨rfl, [_, _], rfl⟩
     ·skip
      refine TQ.then_p ?_
      have hin : i = l.length := by have h : ¬ (i : Int) < (l.length : Int) := ht25; omega
      subst hin
      rw [List.take_of_length_le (Nat.le_refl _)] at hnd hrg
      have hcl : Cols l.length l := ⟨hnd, hrg⟩
      refine TQ.pop ?_
      have hC2 : ¬ s < ((2 ^ l.length : Nat) : Int) := by have := of_decide_eq_false hC; omega
      refine TQ.panL [4] [.bool false] stop54 (stopped_err _) rfl rfl rfl (At.own' (i := 0) rfl rfl) ?_
      have e : servesS l s = (false, 2) := by unfold servesS; rw [if_neg (by rw [cols_isOrd hcl]; intro h; rcases h with h | h | h <;> first | omega | cases h), if_pos (.inr (by omega))]
      rw [e]; exact ⟨rfl, [_], rfl⟩
    ·refine TL.off hF rfl rfl rfl (decide_eq_false g10_48) rfl ?_
     refine TL.off hF rfl rfl rfl (decide_eq_false g10_48) rfl ?_
     refine TL.off hF rfl rfl rfl (decide_eq_false g10_48) rfl ?_
     refine TL.off hF rfl rfl rfl (decide_eq_false g10_48) rfl ?_
     refine TL.off hF rfl rfl rfl (decide_eq_false g10_48) rfl ?_
     refine TL.pickF hF rfl (decide_eq_false g10_48) rfl rfl ?_
     refine TL.callE hF (must_no 2) rfl rfl (fun _ _ h => h.elim) ?_
     rintro _ _ ⟨rfl, rfl⟩
     refine TQ.then_p ?_
     have hin : i = l.length := by have h : ¬ (i : Int) < (l.length : Int) := ht25; omega
     subst hin
     rw [List.take_of_length_le (Nat.le_refl _)] at hnd hrg
     have hcl : Cols l.length l := ⟨hnd, hrg⟩
     refine TQ.pop ?_
     refine TQ.panL [4] [.bool false] stop54 (stopped_err _) rfl rfl rfl (At.own' (i := 0) rfl rfl) ?_
     have e : servesS l s = (false, 2) := by unfold servesS; rw [if_neg (by rw [cols_isOrd hcl]; intro h; rcases h with h | h | h <;> first | omega | cases h), if_pos (.inl (by omega))]
     rw [e]; exact ⟨rfl, [_], rfl⟩
  ·skip
   refine TQ.then_p ?_
   have hA2 : ¬ l.length ≤ 10 := by have := of_decide_eq_false hA; omega
   refine TQ.panL [4] [.bool false] stop54 (stopped_err _) rfl rfl rfl (At.own' (i := 0) rfl rfl) ?_
   have e : servesS l s = (false, 1) := by unfold servesS; rw [if_pos (.inr (.inl (by omega)))]
   rw [e]; exact ⟨rfl, [_], rfl⟩
 ·refine TL.off hF rfl rfl rfl (decide_eq_false g2_16) rfl ?_
  refine TL.off hF rfl rfl rfl (decide_eq_false g2_16) rfl ?_
  refine TL.off hF rfl rfl rfl (decide_eq_false g2_16) rfl ?_
  refine TL.pickF hF rfl (decide_eq_false g2_16) rfl rfl ?_
  refine TL.callE hF (must_no 1) rfl rfl (fun _ _ h => h.elim) ?_
  rintro _ _ ⟨rfl, rfl⟩
  refine TQ.then_p ?_
  refine TQ.panL [4] [.bool false] stop54 (stopped_err _) rfl rfl rfl (At.own' (i := 0) rfl rfl) ?_
  have e : servesS l s = (false, 1) := by unfold servesS; rw [if_pos (.inl (by omega))]
  rw [e]; exact ⟨rfl, [_], rfl⟩
end Go.Proofs.YtfnalecnnmkgbaaDoor
