/- Whatever orders serve all searches there are at least as many as Fewest: for every input. No condition. -/
import Derived.Test.YtfnalecnnmkgbaaDoorTe
import Derived.Test.YtfnalecnnmkgbaaDoorCards
import Derived.Test.YtfnalecnnmkgbaaDoorTie
/- Searches, columns, and orders, of numbers. -/
namespace Go.Proofs.YtfnalecnnmkgbaaDoor
open Go.Sl
variable {S : Nat → Prop} {w0 : World} {η : Heap}
abbrev n16 (l : List Nat) : List Value := l.map fun (n : Nat) => Value.int .u16 (n : Int)
abbrev n8 (l : List Nat) : List Value := l.map fun (n : Nat) => Value.int .u8 (n : Int)
theorem row16 {a : Option Addr} {xs : List Nat} (h : Row S w0 η a (n16 xs)) {k : Nat} (hk : k < xs.length) : At S w0 η (sAt a (k * 1)) (.int .u16 (xs[k] : Int)) := by
 rw [Nat.mul_one]; exact h.cell k _ (by simp [hk])
theorem row8 {a : Option Addr} {xs : List Nat} (h : Row S w0 η a (n8 xs)) {k : Nat} (hk : k < xs.length) : At S w0 η (sAt a (k * 1)) (.int .u8 (xs[k] : Int)) := by
 rw [Nat.mul_one]; exact h.cell k _ (by simp [hk])
def colN (n : Nat) : Nat := 1 + n % 10
theorem colN_range (n : Nat) : 1 ≤ colN n ∧ colN n ≤ 10 := by unfold colN; omega
def srchX (m n : Nat) : Int := ((1 + n % (2 ^ m - 1) : Nat) : Int)
def stepX (m : Nat) (out : List Int) (n : Nat) : List Int := if srchX m n ∉ out ∧ out.length < 24 then out ++ [srchX m n] else out
def searchesS (m : Nat) (xs : List Nat) : List Int := xs.foldl (stepX m) []
/-- Searches that are valid. -/
structure Valid (m : Nat) (l : List Int) : Prop where
 nd : l.Nodup
 le : l.length ≤ 24
 rg : ∀ x ∈ l, 1 ≤ x ∧ x < ((2 ^ m : Nat) : Int)
theorem srchX_range {m : Nat} (hm : 1 ≤ m) (n : Nat) : 1 ≤ srchX m n ∧ srchX m n < ((2 ^ m : Nat) : Int) := by
 have h1 : 2 ^ 1 ≤ 2 ^ m := Nat.pow_le_pow_right (by decide) hm
 have h2 := Nat.mod_lt n (show 0 < 2 ^ m - 1 by omega)
 unfold srchX; omega
theorem stepX_ok {m : Nat} (hm : 1 ≤ m) {out : List Int} (h : Valid m out) (n : Nat) : Valid m (stepX m out n) := by
 unfold stepX
 split
 ·rename_i q
  refine ⟨List.nodup_append.2 ⟨h.nd, by simp, fun p hp x hx e => ?_⟩, by rw [List.length_append, List.length_singleton]; omega, fun x hx => ?_⟩
  ·rw [List.mem_singleton.1 hx] at e; exact q.1 (e ▸ hp)
  ·rcases List.mem_append.1 hx with hx | hx
   ·exact h.rg x hx
   ·rw [List.mem_singleton.1 hx]; exact srchX_range hm n
 ·exact h
theorem fold_ok {m : Nat} (hm : 1 ≤ m) : ∀ (xs : List Nat) {out : List Int}, Valid m out → Valid m (xs.foldl (stepX m) out)
 | [], _, h => h
 | n :: xs, _, h => fold_ok hm xs (stepX_ok hm h n)
theorem valid_nil (m : Nat) : Valid m [] := ⟨List.nodup_nil, by simp, by simp⟩
theorem searches_ok {m : Nat} (hm : 1 ≤ m) (xs : List Nat) : Valid m (searchesS m xs) := fold_ok hm xs (valid_nil m)
theorem chkL_of {m : Nat} : ∀ {l seen : List Int}, (∀ x ∈ l, (1 ≤ x ∧ x < ((2 ^ m : Nat) : Int)) ∧ x ∉ seen) → l.Nodup → chkL m seen l = 0
 | [], _, _, _ => rfl
 | x :: r, seen, h, hn => by
  have hx := h x List.mem_cons_self
  have hn2 := List.nodup_cons.1 hn
  unfold chkL
  rw [if_pos hx.1, if_neg hx.2]
  refine chkL_of (fun y hy => ⟨(h y (List.mem_cons_of_mem _ hy)).1, fun hs => ?_⟩) hn2.2
  rcases List.mem_append.1 hs with q | q
  ·exact (h y (List.mem_cons_of_mem _ hy)).2 q
  ·rw [List.mem_singleton.1 q] at hy; exact hn2.1 hy
theorem Valid.check {m : Nat} {l : List Int} (h : Valid m l) (h1 : 1 ≤ m) (h2 : m ≤ 10) : checkE (m : Int) l = 0 := by
 unfold checkE
 have := h.le
 rw [if_neg (by omega), if_neg (by omega), Int.toNat_natCast]
 exact chkL_of (fun x hx => ⟨h.rg x hx, by simp⟩) h.nd
theorem Valid.sets {m : Nat} {l : List Int} (h : Valid m l) (h2 : m ≤ 10) : Sets l := fun x hx => by
 have := h.rg x hx
 have := two_pow h2; omega
set_option maxHeartbeats 2000000 in
theorem columns_law {n : Nat} (hn : n < 256) :
  Rt Tryd.prog 26 [.int .u8 (n : Int)].toArray S w0 η (fun v η' => v = .int .i64 ((colN n : Nat) : Int) ∧ η' = η) := by
 have hF := open_wide
 refine Rt.of (fn := Tryd.f26) Tryd.func26 rfl rfl ?_
 refine T.seq ?_
 refine T.region ?_
 refine TL.assign hF rfl rfl ?_
 refine TL.nil ?_
 refine TQ.then_n ?_
 refine T.seq ?_
 refine T.region ?_
 refine TL.move hF rfl rfl ?_
 refine TL.convK hF (r := (n : Int)) rfl (wrap_i64 (by omega) (by omega)) rfl ?_
 refine TL.remN hF (a := n) (b := 10) rfl rfl (by decide) rfl ?_
 refine TL.addK hF rfl rfl (r := ((colN n : Nat) : Int)) ((wrap_i64 (by omega) (by omega)).trans (by unfold colN; omega)) rfl ?_
 refine TL.assign hF rfl rfl ?_
 refine TL.nil ?_
 refine TQ.then_n ?_
 refine T.ret ?_
 refine TQ.rets [2] _ rfl rfl rfl ?_
 exact ⟨rfl, rfl⟩
set_option maxHeartbeats 2000000 in
theorem searches_law {a : Option Addr} {xs : List Nat} {c m : Nat} (hm1 : 1 ≤ m) (hm : m ≤ 10) (hx : Row S w0 [] a (n16 xs)) (hl : xs.length < 2 ^ 62) (hb : ∀ n ∈ xs, n < 65536) :
  Rt Tryd.prog 27 [.int .i64 (m : Int), .slice a xs.length c].toArray S w0 η (fun v η' => ∃ oa oc og, v = .slice oa (searchesS m xs).length oc ∧ OSl 3 1 (.slice oa (searchesS m xs).length oc) (searchesS m xs).length (ints (searchesS m xs)) og ∧ η' = og :: η) := by
 have hF := open_wide
 refine Rt.of (fn := Tryd.f27) Tryd.func27 rfl rfl ?_
 refine T.seq ?_
 refine T.region ?_
 refine TL.assign hF rfl rfl ?_
 refine TL.nil ?_
 refine TQ.then_n ?_
 refine T.seq ?_
 refine T.region ?_
 refine TL.assign hF rfl rfl ?_
 refine TL.nil ?_
 refine TQ.then_n ?_
 refine T.seq ?_
 refine T.seq ?_
 refine T.region ?_
 refine TL.move hF rfl rfl ?_
 refine TL.len hF rfl rfl ?_
 refine TL.move hF rfl rfl ?_
 refine TL.nil ?_
 refine TQ.then_n ?_
 refine T.block ?_
 refine T.hnil ?_
 refine T.loop (ι := Nat × List Int × Option Addr × Nat × Seg) (fun z => match z with | (k, out, oa, oc, og) => k ≤ xs.length ∧ searchesS m xs = (xs.drop k).foldl (stepX m) out ∧ out.length ≤ 24 ∧ OSl 3 1 (.slice oa out.length oc) out.length (ints out) og) (fun z => match z with | (k, out, oa, oc, og) => [(0, .int .i64 (m : Int)), (4, .slice none 0 0), (9, .slice a xs.length c), (10, .int .i64 (xs.length : Int)), (5, .slice oa out.length oc), (11, .int .i64 (k : Int))]) (fun z => match z with | (k, out, oa, oc, og) => og :: η) (fun z => xs.length - z.1) (0, [], none, 0, []) ⟨Nat.zero_le _, rfl, by simp, OSl.nil _ _⟩ ⟨rfl, rfl, rfl, rfl, rfl, rfl, trivial⟩ rfl ?_
 rintro ⟨k, out, oa, oc, og⟩ ⟨hk, hfo, hol, ho⟩
 refine T.seq ?_
 refine T.region ?_
 refine TL.bin hF rfl rfl rfl rfl ?_
 refine TL.nil ?_
 refine TQ.then_n ?_
 refine T.seq ?_
 first | refine T.cond_d rfl (fun ht12 => ?_) (fun ht12 => ?_) | refine T.cond _ rfl (fun ht12 => ?_) (fun ht12 => ?_)
 ·refine T.skip ?_
  refine TQ.then_n ?_
  refine T.seq ?_
  refine T.block ?_
  refine T.seq ?_
  refine T.region ?_
  have hkl : k < xs.length := by have h : (k : Int) < (xs.length : Int) := ht12; omega
  have hdr : xs.drop k = xs[k] :: xs.drop (k + 1) := by rw [List.drop_eq_getElem_cons hkl]
  have hxb := hb _ (List.getElem_mem hkl)
  rw [hdr, List.foldl_cons] at hfo
  have h1 : 2 ^ 1 ≤ 2 ^ m := Nat.pow_le_pow_right (by decide) hm1
  have hp := two_pow hm
  have hmod := Nat.mod_lt xs[k] (show 0 < 2 ^ m - 1 by omega)
  refine TL.indexAddr hF rfl rfl (hx.adi (i := k) (by simp; omega)) (by omega) (by omega) rfl ?_
  refine TL.load hF rfl (row16 hx.ro hkl) rfl ?_
  refine TL.assign hF rfl rfl ?_
  refine TL.nil ?_
  refine TQ.then_n ?_
  refine T.seq ?_
  refine T.region ?_
  refine TL.move hF rfl rfl ?_
  refine TL.convK hF (r := ((xs[k] : Nat) : Int)) rfl (wrap_i64 (by omega) (by omega)) rfl ?_
  refine TL.move hF rfl rfl ?_
  refine TL.shlS hF (a := 1) (s := m) rfl rfl (by omega) (by omega) rfl ?_
  refine TL.subK hF rfl rfl (r := ((2 ^ m - 1 : Nat) : Int)) (by rw [Nat.one_mul]; exact (wrap_i64 (by omega) (by omega)).trans (by omega)) rfl ?_
  refine TL.remN hF (a := xs[k]) (b := 2 ^ m - 1) rfl rfl (by omega) rfl ?_
  refine TL.addK hF rfl rfl (r := srchX m xs[k]) ((wrap_i64 (by omega) (by omega)).trans (by unfold srchX; omega)) rfl ?_
  refine TL.assign hF rfl rfl ?_
  refine TL.nil ?_
  refine TQ.then_n ?_
  refine T.seq ?_
  refine T.region ?_
  refine TL.move hF rfl rfl ?_
  refine TL.move hF rfl rfl ?_
  refine TL.callV hF (Where_fn (srchX m xs[k]) (ho.row List.mem_cons_self) (by omega)) rfl rfl ?_
  refine TL.bin hF rfl rfl rfl rfl ?_
  refine TL.move hF rfl rfl ?_
  refine TL.gd (t := 26) rfl (fun g6_26 => ?_) (fun g6_26 => ?_)
  ·refine TL.on rfl rfl rfl (decide_eq_true g6_26) ?_
   refine TL.move hF rfl rfl ?_
   refine TL.on rfl rfl rfl (decide_eq_true g6_26) ?_
   refine TL.len hF rfl rfl ?_
   refine TL.on rfl rfl rfl (decide_eq_true g6_26) ?_
   refine TL.bin hF rfl rfl rfl rfl ?_
   refine TL.pickT hF rfl (decide_eq_true g6_26) rfl rfl ?_
   refine TL.nil ?_
   refine TQ.then_n ?_
   refine T.cond_d rfl (fun ht30 => ?_) (fun ht30 => ?_)
   ·refine T.region ?_
    refine TL.move hF rfl rfl ?_
    refine TL.move hF rfl rfl ?_
    refine TL.buildSlice hF rfl (cs := #[.int .i64 (srchX m xs[k])]) (e := 3) (fun w => by kernel_rfl) rfl (fun b33 => ?_)
    refine TL.append hF 1 rfl rfl rfl ho (row_own (cs := [.int .i64 (srchX m xs[k])]) (e := 3) (by simp)).src rfl rfl (by simp [Value.oneCell']) (by omega) (by omega) rfl (fun pa pc pg ph => ?_)
    rw [← ints_app] at ph
    refine TL.assign hF rfl rfl ?_
    refine TL.nil ?_
    refine TQ.block_n ?_
    refine TQ.then_n ?_
    refine T.region ?_
    refine TL.add hF rfl rfl (by omega) (by omega) rfl ?_
    refine TL.move hF rfl rfl ?_
    refine TL.nil ?_
    have hni : srchX m xs[k] ∉ out := fun hm2 => by
     have h := whereI_mem (l := out) (n := srchX m xs[k])
     rw [decide_eq_true hm2] at h
     have := of_decide_eq_true h; omega
    have e1 : stepX m out xs[k] = out ++ [srchX m xs[k]] := by unfold stepX; exact if_pos ⟨hni, by omega⟩
    rw [e1] at hfo
    refine TQ.pop ?_
    refine TQ.round (k + 1, out ++ [srchX m xs[k]], pa, pc, pg) ⟨by omega, hfo, by rw [len_one]; omega, by rw [len_one]; exact ph⟩ (by dsimp only; omega) ⟨rfl, rfl, rfl, rfl, congrArg (fun n : Nat => some (Value.slice pa n pc)) len_one.symm, rfl, trivial⟩ rfl
   ·refine T.skip ?_
    refine TQ.block_n ?_
    refine TQ.then_n ?_
    refine T.region ?_
    refine TL.add hF rfl rfl (by omega) (by omega) rfl ?_
    refine TL.move hF rfl rfl ?_
    refine TL.nil ?_
    have e1 : stepX m out xs[k] = out := by unfold stepX; exact if_neg (fun h => by omega)
    rw [e1] at hfo
    refine TQ.round (k + 1, out, oa, oc, og) ⟨by omega, hfo, hol, ho⟩ (by dsimp only; omega) ⟨rfl, rfl, rfl, rfl, rfl, rfl, trivial⟩ rfl
  ·refine TL.off hF rfl rfl rfl (decide_eq_false g6_26) rfl ?_
   refine TL.off hF rfl rfl rfl (decide_eq_false g6_26) rfl ?_
   refine TL.off hF rfl rfl rfl (decide_eq_false g6_26) rfl ?_
   refine TL.pickF hF rfl (decide_eq_false g6_26) rfl rfl ?_
   refine TL.nil ?_
   refine TQ.then_n ?_
   refine T.cond_f rfl rfl ?_
   refine T.skip ?_
   refine TQ.block_n ?_
   refine TQ.then_n ?_
   refine T.region ?_
   refine TL.add hF rfl rfl (by omega) (by omega) rfl ?_
   refine TL.move hF rfl rfl ?_
   refine TL.nil ?_
   have e1 : stepX m out xs[k] = out := by unfold stepX; exact if_neg (fun h => by
    have h2 := whereI_mem (l := out) (n := srchX m xs[k])
    rw [decide_eq_false h.1] at h2
    have := of_decide_eq_false h2; omega)
   rw [e1] at hfo
   refine TQ.round (k + 1, out, oa, oc, og) ⟨by omega, hfo, hol, ho⟩ (by dsimp only; omega) ⟨rfl, rfl, rfl, rfl, rfl, rfl, trivial⟩ rfl
 ·refine T.exit ?_
  refine TQ.then_x ?_
  refine TQ.then_x ?_
  refine TQ.block_x ?_
  refine TQ.then_n ?_
  refine T.seq ?_
  refine T.region ?_
  refine TL.move hF rfl rfl ?_
  refine TL.assign hF rfl rfl ?_
  refine TL.nil ?_
  refine TQ.then_n ?_
  refine T.ret ?_
  refine TQ.rets [4] _ rfl rfl rfl ?_
  have hkn : k = xs.length := by have h : ¬ (k : Int) < (xs.length : Int) := ht12; omega
  rw [List.drop_of_length_le (by omega)] at hfo
  have hfo : searchesS m xs = out := hfo
  rw [hfo]
  exact ⟨oa, oc, og, rfl, ho, rfl⟩
end Go.Proofs.YtfnalecnnmkgbaaDoor
/- Orders of numbers. -/
namespace Go.Proofs.YtfnalecnnmkgbaaDoor
open Go.Sl
variable {S : Nat → Prop} {w0 : World} {η : Heap}
/-- Two places changed. -/
def swp (l : List Int) (i k : Nat) : List Int := (l.set i (l.getD k 0)).set k (l.getD i 0)
theorem swp_len (l : List Int) (i k : Nat) : (swp l i k).length = l.length := by unfold swp; rw [List.length_set, List.length_set]
theorem swp_get {l : List Int} {i k j : Nat} (hi : i < l.length) (hk : k < l.length) (hj : j < l.length) : (swp l i k)[j]'(by rw [swp_len]; exact hj) = l[if j = k then i else if j = i then k else j]'(by split <;> (try split) <;> assumption) := by
 unfold swp
 rw [List.getElem_set]
 by_cases e : k = j
 ·subst e
  simp only [if_true]
  exact getD_get hi
 ·rw [if_neg e]
  have e2 : ¬ j = k := fun q => e q.symm
  simp only [if_neg e2]
  rw [List.getElem_set]
  by_cases e3 : i = j
  ·subst e3
   simp only [if_true]
   exact getD_get hk
  ·have e4 : ¬ j = i := fun q => e3 q.symm
   simp only [if_neg e4, if_neg e3]
theorem swp_cols {n : Nat} {l : List Int} (h : Cols n l) {i k : Nat} (hi : i < l.length) (hk : k < l.length) : Cols n (swp l i k) := by
 have inj : ∀ x y (hx : x < l.length) (hy : y < l.length), l[x] = l[y] → x = y := fun x y hx hy e => by
  rcases Nat.lt_trichotomy x y with q | q | q
  ·exact (List.pairwise_iff_getElem.1 h.nd x y hx hy q e).elim
  ·exact q
  ·exact (List.pairwise_iff_getElem.1 h.nd y x hy hx q e.symm).elim
 refine ⟨List.pairwise_iff_getElem.2 fun p q hp hq hpq e => ?_, fun x hx => ?_⟩
 ·rw [swp_len] at hp hq
  rw [swp_get hi hk hp, swp_get hi hk hq] at e
  have h2 := inj _ _ _ _ e
  split at h2 <;> split at h2 <;> (try split at h2) <;> (try split at h2) <;> omega
 ·obtain ⟨j, hj, rfl⟩ := List.getElem_of_mem hx
  rw [swp_len] at hj
  rw [swp_get hi hk hj]; exact h.rg _ (List.getElem_mem _)
theorem range_cols (n : Nat) : Cols n ((List.range n).map fun (c : Nat) => (c : Int)) :=
 ⟨List.pairwise_map.2 (List.nodup_range.imp fun h e => h (by omega)), fun x hx => by
  obtain ⟨c, hc, rfl⟩ := List.mem_map.1 hx
  have := List.mem_range.1 hc; omega⟩
theorem ints_set (l : List Int) (i : Nat) (v : Int) : (ints l).set i (.int .i64 v) = ints (l.set i v) := by simp [ints, List.map_set]
set_option maxHeartbeats 2000000 in
theorem turned_law {a : Option Addr} {ts : List Nat} {c m : Nat} (hm1 : 1 ≤ m) (hm : m ≤ 10) (hx : Row S w0 [] a (n8 ts)) (hl : ts.length < 2 ^ 62) (hb : ∀ n ∈ ts, n < 256) :
  Rt Tryd.prog 29 [.int .i64 (m : Int), .slice a ts.length c].toArray S w0 η (fun v η' => ∃ l oa oc og, v = .slice oa m oc ∧ Cols m l ∧ l.length = m ∧ OSl 3 1 (.slice oa l.length oc) l.length (ints l) og ∧ η' = og :: η) := by
 have hF := open_wide
 refine Rt.of (fn := Tryd.f29) Tryd.func29 rfl rfl ?_
 refine T.seq ?_
 refine T.region ?_
 refine TL.assign hF rfl rfl ?_
 refine TL.nil ?_
 refine TQ.then_n ?_
 refine T.seq ?_
 refine T.region ?_
 refine TL.assign hF rfl rfl ?_
 refine TL.nil ?_
 refine TQ.then_n ?_
 refine T.seq ?_
 refine T.seq ?_
 refine T.region ?_
 refine TL.move hF rfl rfl ?_
 refine TL.move hF rfl rfl ?_
 refine TL.nil ?_
 refine TQ.then_n ?_
 refine T.block ?_
 refine T.hnil ?_
 refine T.loop (ι := Nat × Option Addr × Nat × Seg) (fun z => match z with | (i, oa, oc, og) => i ≤ m ∧ OSl 3 1 (.slice oa i oc) i (ints ((List.range i).map fun (c : Nat) => (c : Int))) og) (fun z => match z with | (i, oa, oc, og) => [(0, .int .i64 (m : Int)), (1, .slice a ts.length c), (4, .slice none 0 0), (5, .slice oa i oc), (9, .int .i64 (m : Int)), (10, .int .i64 (i : Int))]) (fun z => match z with | (i, oa, oc, og) => og :: η) (fun z => m - z.1) (0, none, 0, []) ⟨Nat.zero_le _, OSl.nil _ _⟩ ⟨rfl, rfl, rfl, rfl, rfl, rfl, trivial⟩ rfl ?_
 rintro ⟨i, oa, oc, og⟩ ⟨hi, ho⟩
 refine T.seq ?_
 refine T.region ?_
 refine TL.bin hF rfl rfl rfl rfl ?_
 refine TL.nil ?_
 refine TQ.then_n ?_
 refine T.seq ?_
 first | refine T.cond_d rfl (fun ht11 => ?_) (fun ht11 => ?_) | refine T.cond _ rfl (fun ht11 => ?_) (fun ht11 => ?_)
 ·refine T.skip ?_
  refine TQ.then_n ?_
  refine T.seq ?_
  refine T.block ?_
  refine T.seq ?_
  refine T.region ?_
  refine TL.move hF rfl rfl ?_
  refine TL.assign hF rfl rfl ?_
  refine TL.nil ?_
  refine TQ.then_n ?_
  refine T.region ?_
  refine TL.move hF rfl rfl ?_
  refine TL.move hF rfl rfl ?_
  have him : i < m := by have h : (i : Int) < (m : Int) := ht11; omega
  refine TL.buildSlice hF rfl (cs := #[.int .i64 (i : Int)]) (e := 3) (fun w => by kernel_rfl) rfl (fun b15 => ?_)
  refine TL.append hF 1 rfl rfl rfl ho (row_own (cs := [.int .i64 (i : Int)]) (e := 3) (by simp)).src rfl rfl (by simp [Value.oneCell']) (by omega) (by omega) rfl (fun pa pc pg ph => ?_)
  rw [← ints_app] at ph
  refine TL.assign hF rfl rfl ?_
  refine TL.nil ?_
  refine TQ.block_n ?_
  refine TQ.then_n ?_
  refine T.region ?_
  refine TL.add hF rfl rfl (by omega) (by omega) rfl ?_
  refine TL.move hF rfl rfl ?_
  refine TL.nil ?_
  have e1 : ((List.range (i + 1)).map fun (c : Nat) => (c : Int)) = ((List.range i).map fun (c : Nat) => (c : Int)) ++ [(i : Int)] := by rw [List.range_succ, List.map_append]; rfl
  rw [← e1] at ph
  refine TQ.pop ?_
  exact TQ.round (i + 1, pa, pc, pg) ⟨by omega, ph⟩ (by dsimp only; omega) ⟨rfl, rfl, rfl, rfl, rfl, rfl, trivial⟩ rfl
 ·refine T.exit ?_
  refine TQ.then_x ?_
  refine TQ.then_x ?_
  refine TQ.block_x ?_
  refine TQ.then_n ?_
  refine T.seq ?_
  refine T.seq ?_
  refine T.region ?_
  refine TL.move hF rfl rfl ?_
  refine TL.len hF rfl rfl ?_
  refine TL.move hF rfl rfl ?_
  refine TL.nil ?_
  refine TQ.then_n ?_
  refine T.block ?_
  have him : i = m := by have h : ¬ (i : Int) < (m : Int) := ht11; omega
  subst him
  obtain ⟨g, oc2, cur, hv, rfl, _⟩ := ho.ex (by omega)
  cases hv
  have hco := range_cols i
  refine T.loop (ι := Nat × List Int × Array Value) (fun z => match z with | (j, l, cur) => j ≤ i ∧ Cols i l ∧ l.length = i ∧ OSl 3 1 (.slice (some ⟨g, 0, none⟩) i oc) i (ints l) [(g, Obj.cells cur 3 (0, 0))]) (fun z => match z with | (j, l, cur) => [(0, .int .i64 (i : Int)), (1, .slice a ts.length c), (4, .slice none 0 0), (5, .slice (some ⟨g, 0, none⟩) i oc), (19, .int .i64 (i : Int)), (20, .int .i64 (j : Int))]) (fun z => match z with | (j, l, cur) => [(g, Obj.cells cur 3 (0, 0))] :: η) (fun z => i - z.1) (0, ((List.range i).map fun (c : Nat) => (c : Int)), cur) ⟨Nat.zero_le _, hco, by simp, ho⟩ ⟨rfl, rfl, rfl, rfl, rfl, rfl, trivial⟩ rfl ?_
  clear ho hco
  rintro ⟨j, l, cur⟩ ⟨hj, hco, hll, ho⟩
  refine T.seq ?_
  refine T.region ?_
  refine TL.bin hF rfl rfl rfl rfl ?_
  refine TL.nil ?_
  refine TQ.then_n ?_
  refine T.seq ?_
  first | refine T.cond_d rfl (fun ht21 => ?_) (fun ht21 => ?_) | refine T.cond _ rfl (fun ht21 => ?_) (fun ht21 => ?_)
  ·refine T.skip ?_
   refine TQ.then_n ?_
   refine T.seq ?_
   refine T.block ?_
   refine T.seq ?_
   refine T.region ?_
   refine TL.move hF rfl rfl ?_
   refine TL.assign hF rfl rfl ?_
   refine TL.nil ?_
   refine TQ.then_n ?_
   refine T.seq ?_
   refine T.region ?_
   refine TL.move hF rfl rfl ?_
   refine TL.assign hF rfl rfl ?_
   refine TL.nil ?_
   refine TQ.then_n ?_
   have hji : j < i := by have h : (j : Int) < (i : Int) := ht21; omega
   refine T.cut (ι := Nat) (fun k => j ≤ k ∧ k < i) (fun k => [(0, .int .i64 (i : Int)), (1, .slice a ts.length c), (4, .slice none 0 0), (5, .slice (some ⟨g, 0, none⟩) i oc), (19, .int .i64 (i : Int)), (20, .int .i64 (j : Int)), (7, .int .i64 (j : Int)), (8, .int .i64 (k : Int))]) (fun _ => [(g, Obj.cells cur 3 (0, 0))] :: η) ?_ ?_
   ·refine T.seq ?_
    refine T.region ?_
    refine TL.move hF rfl rfl ?_
    refine TL.move hF rfl rfl ?_
    refine TL.len hF rfl rfl ?_
    refine TL.bin hF rfl rfl rfl rfl ?_
    refine TL.nil ?_
    refine TQ.then_n ?_
    refine T.cond_d rfl (fun ht27 => ?_) (fun ht27 => ?_)
    ·refine T.region ?_
     refine TL.move hF rfl rfl ?_
     refine TL.move hF rfl rfl ?_
     refine TL.move hF rfl rfl ?_
     have hjt : j < ts.length := by have h : (j : Int) < (ts.length : Int) := ht27; omega
     have htb := hb _ (List.getElem_mem hjt)
     have hmod := Nat.mod_lt ts[j] (show 0 < i - j by omega)
     refine TL.indexAddr hF rfl rfl (hx.adi (i := j) (by simp; omega)) (by omega) (by omega) rfl ?_
     refine TL.load hF rfl (row8 hx.ro hjt) rfl ?_
     refine TL.convK hF (r := ((ts[j] : Nat) : Int)) rfl (wrap_i64 (by omega) (by omega)) rfl ?_
     refine TL.move hF rfl rfl ?_
     refine TL.move hF rfl rfl ?_
     refine TL.subK hF rfl rfl (r := ((i - j : Nat) : Int)) ((wrap_i64 (by omega) (by omega)).trans (by omega)) rfl ?_
     refine TL.remN hF (a := ts[j]) (b := i - j) rfl rfl (by omega) rfl ?_
     refine TL.addK hF rfl rfl (r := ((j + ts[j] % (i - j) : Nat) : Int)) ((wrap_i64 (by omega) (by omega)).trans (by omega)) rfl ?_
     refine TL.assign hF rfl rfl ?_
     refine TL.nil ?_
     exact TQ.cut (j + ts[j] % (i - j)) ⟨by omega, by omega⟩ ⟨rfl, rfl, rfl, rfl, rfl, rfl, rfl, rfl, trivial⟩ rfl
    ·refine T.skip ?_
     exact TQ.cut j ⟨Nat.le_refl _, hji⟩ ⟨rfl, rfl, rfl, rfl, rfl, rfl, rfl, rfl, trivial⟩ rfl
   ·rintro k ⟨hjk, hki⟩
    have hjl : j < l.length := by omega
    have hkl : k < l.length := by omega
    have hro : Row S w0 ([(g, Obj.cells cur 3 (0, 0))] :: η) (some ⟨g, 0, none⟩) (ints l) := ho.row List.mem_cons_self
    have hcu := ho.ex (by omega)
    obtain ⟨g2, cap2, cur2, hv2, hs2, hcz⟩ := hcu
    cases hs2
    clear hv2
    refine T.drawH 14 mixed ?_
    refine DH.pure (i := 0) [(5, _, none)] rfl rfl rfl rfl ⟨⟨rfl, by kernel_rfl⟩, trivial⟩ (fun _ ext => TL.move hF rfl rfl TL.fin) ?_
    refine DH.pure (i := 1) [(7, _, none)] rfl rfl rfl rfl ⟨⟨rfl, by kernel_rfl⟩, trivial⟩ (fun _ ext => TL.move hF rfl rfl TL.fin) ?_
    refine DH.pure (i := 2) [(5, _, none)] rfl rfl rfl rfl ⟨⟨rfl, by kernel_rfl⟩, trivial⟩ (fun _ ext => TL.move hF rfl rfl TL.fin) ?_
    refine DH.pure (i := 3) [(8, _, none)] rfl rfl rfl rfl ⟨⟨rfl, by kernel_rfl⟩, trivial⟩ (fun _ ext => TL.move hF rfl rfl TL.fin) ?_
    refine DH.pure (i := 4) [(5, _, none)] rfl rfl rfl rfl ⟨⟨rfl, by kernel_rfl⟩, trivial⟩ (fun _ ext => TL.move hF rfl rfl TL.fin) ?_
    refine DH.pure (i := 5) [(8, _, none)] rfl rfl rfl rfl ⟨⟨rfl, by kernel_rfl⟩, trivial⟩ (fun _ ext => TL.move hF rfl rfl TL.fin) ?_
    refine DH.pure (i := 6) [(43, _, some 4), (44, _, some 5)] rfl rfl rfl rfl ⟨⟨rfl, rfl, rfl⟩, ⟨rfl, rfl, rfl⟩, trivial⟩ (fun _ ext => TL.indexAddr hF rfl rfl (hro.adi (i := k) (by simp; omega)) (by omega) (by omega) rfl TL.fin) ?_
    refine DH.read (i := 7) [(45, _, some 6)] rfl rfl rfl rfl ⟨⟨rfl, rfl, rfl⟩, trivial⟩ (fun ext => TL.load hF rfl (hro.int (i := k) hkl) rfl TL.fin) ?_
    refine DH.pure (i := 8) [(5, _, none)] rfl rfl rfl rfl ⟨⟨rfl, by kernel_rfl⟩, trivial⟩ (fun _ ext => TL.move hF rfl rfl TL.fin) ?_
    refine DH.pure (i := 9) [(7, _, none)] rfl rfl rfl rfl ⟨⟨rfl, by kernel_rfl⟩, trivial⟩ (fun _ ext => TL.move hF rfl rfl TL.fin) ?_
    refine DH.pure (i := 10) [(47, _, some 8), (48, _, some 9)] rfl rfl rfl rfl ⟨⟨rfl, rfl, rfl⟩, ⟨rfl, rfl, rfl⟩, trivial⟩ (fun _ ext => TL.indexAddr hF rfl rfl (hro.adi (i := j) (by simp; omega)) (by omega) (by omega) rfl TL.fin) ?_
    refine DH.read (i := 11) [(49, _, some 10)] rfl rfl rfl rfl ⟨⟨rfl, rfl, rfl⟩, trivial⟩ (fun ext => TL.load hF rfl (hro.int (i := j) hjl) rfl TL.fin) ?_
    refine DH.pure (i := 12) [(39, _, some 0), (40, _, some 1)] rfl rfl rfl rfl ⟨⟨rfl, rfl, rfl⟩, ⟨rfl, rfl, rfl⟩, trivial⟩ (fun _ ext => TL.indexAddr hF rfl rfl (hro.adi (i := j) (by simp; omega)) (by omega) (by omega) rfl TL.fin) ?_
    refine DH.k1 (by kernel_rfl) (by kernel_rfl) (by kernel_rfl) (by kernel_rfl) (HBK.mk (h := 13) [] [(51, _, some 12), (46, _, some 7)] rfl rfl rfl ⟨⟨rfl, rfl, rfl⟩, ⟨rfl, rfl, rfl⟩, trivial⟩ (by kernel_rfl) (fun ext => ?_))
    refine TL.storeI hF 0 rfl rfl rfl rfl (by simp; omega) ?_
    refine TL.finKN trivial ?_
    refine DH.done [(51, _), (50, _), (49, _), (48, _), (47, _), (46, _), (45, _), (44, _), (43, _), (42, _), (41, _), (40, _), (39, _)] [_, _] (by kernel_rfl) (by kernel_rfl) (by kernel_rfl) (by kernel_rfl) rfl rfl ?_
    refine TL.indexAddr hF rfl rfl ⟨_, rfl, rfl⟩ (by omega) (by omega) rfl ?_
    refine TL.storeI hF 0 rfl rfl rfl rfl (by simp; omega) ?_
    refine TL.nil ?_
    refine TQ.block_n ?_
    refine TQ.then_n ?_
    refine T.region ?_
    refine TL.add hF rfl rfl (by omega) (by omega) rfl ?_
    refine TL.move hF rfl rfl ?_
    refine TL.nil ?_
    have h1 := OSl.put (j := j) (u := .int .i64 l[k]) ho
    rw [ints_set] at h1
    have h2 := OSl.put (j := k) (u := .int .i64 l[j]) h1
    rw [ints_set] at h2
    have hsw : (l.set j l[k]).set k l[j] = swp l j k := by unfold swp; rw [getD_get hkl, getD_get hjl]
    rw [hsw] at h2
    refine TQ.heap (η' := [(g, Obj.cells ((cur.setIfInBounds j (.int .i64 l[k])).setIfInBounds k (.int .i64 l[j])) 3 (0, 0))] :: η) (by simp) ?_
    exact TQ.round (j + 1, swp l j k, _) ⟨by omega, swp_cols hco hjl hkl, by rw [swp_len]; exact hll, h2⟩ (by dsimp only; omega) ⟨rfl, rfl, rfl, rfl, rfl, rfl, trivial⟩ rfl
  ·refine T.exit ?_
   refine TQ.then_x ?_
   refine TQ.then_x ?_
   refine TQ.block_x ?_
   refine TQ.then_n ?_
   refine T.seq ?_
   refine T.region ?_
   refine TL.move hF rfl rfl ?_
   refine TL.assign hF rfl rfl ?_
   refine TL.nil ?_
   refine TQ.then_n ?_
   refine T.ret ?_
   refine TQ.rets [4] _ rfl rfl rfl ?_
   exact ⟨l, some ⟨g, 0, none⟩, oc, _, rfl, hco, hll, by rw [hll]; exact ho, rfl⟩
end Go.Proofs.YtfnalecnnmkgbaaDoor
/- The witness with its room; what valid searches lead to; what orders serve. -/
namespace Go.Proofs.YtfnalecnnmkgbaaDoor
open Go.Sl
variable {S : Nat → Prop} {w0 : World} {η : Heap}
def ResW (S : Nat → Prop) (w0 : World) (r : List Int × Int) (η : Heap) (v : Value) (η' : Heap) : Prop := ∃ a cap segs, v = .tuple #[.slice a r.1.length cap, .int .i64 r.2] ∧ Row S w0 segs a (ints r.1) ∧ η' = segs ++ η ∧ r.1.length ≤ cap
theorem ResW.lit {r : List Int × Int} {η' : Heap} {v : Value} {L : List Int} {k : Int} (h : ResW S w0 r η v η') (e : r = (L, k)) : ∃ a cap segs, v = .tuple #[.slice a L.length cap, .int .i64 k] ∧ Row S w0 segs a (ints L) ∧ η' = segs ++ η ∧ L.length ≤ cap := by subst e; exact h
set_option maxHeartbeats 2000000 in
theorem Witness_cap {a : Option Addr} {l : List Int} {c : Nat} (cols : Int) (hx : Row S w0 [] a (ints l)) (hl : l.length < 2 ^ 63) (hc : l.length ≤ c) (hg : Kinds S w0) :
  Rt Tryd.prog 18 [.int .i64 cols, .slice a l.length c].toArray S w0 η (ResW S w0 (witnessP cols l) η) := by
 have hF := open_wide
 refine Rt.ofL (fn := Tryd.f18) Tryd.func18 rfl rfl ?_
 refine T.seq ?_
 refine T.region ?_
 refine TL.assign hF rfl rfl ?_
 refine TL.alloc hF rfl (fun b5 => ?_)
 refine TL.nil ?_
 refine TQ.then_n ?_
 refine T.seq ?_
 refine T.region ?_
 refine TL.makeFunc hF rfl rfl rfl ?_
 refine TL.defer hF rfl rfl ?_
 refine TL.nil ?_
 refine TQ.then_n ?_
 refine T.seq ?_
 refine T.region ?_
 refine TL.move hF rfl rfl ?_
 refine TL.move hF rfl rfl ?_
 refine TL.callE hF (opened_risen cols hx hl hc) rfl rfl ?_ ?_
 ·rintro _ _ ⟨L, oa, oc, og, sg, ⟨hLe, hR, hk, rfl, ho⟩, rfl⟩
  have hL24 := hR.le
  have hsL := hR.sets
  have hnL := hR.up.nodup
  refine TL.freeze [og, sg] rfl (fun S1 w1 hz1 => ?_)
  have hrr : Row S1 w1 [] oa (ints L) := (ho.row (η := [og, sg]) List.mem_cons_self).frz hz1
  have hg1 := hg.old hz1
  have hcap := osl_cap ho
  refine TL.assign hF rfl rfl ?_
  refine TL.nil ?_
  refine TQ.then_n ?_
  refine T.seq ?_
  refine T.region ?_
  refine TL.move hF rfl rfl ?_
  refine TL.callV hF (fewest_fn hg1 hrr (by omega) hnL hsL) rfl rfl ?_
  refine TL.assign hF rfl rfl ?_
  refine TL.nil ?_
  refine TQ.then_n ?_
  refine T.seq ?_
  refine T.region ?_
  refine TL.assign hF rfl rfl ?_
  refine TL.nil ?_
  refine TQ.then_n ?_
  refine T.seq ?_
  refine T.seq ?_
  refine T.region ?_
  refine TL.move hF rfl rfl ?_
  refine TL.len hF rfl rfl ?_
  refine TL.move hF rfl rfl ?_
  refine TL.nil ?_
  refine TQ.then_n ?_
  refine T.block ?_
  refine T.hnil ?_
  refine T.heap (η' := [] :: [(b5, Obj.cells #[.int .i64 0] 24 (0, 0))] :: η) (by simp [Value.cells]) ?_
  refine T.loop (ι := Nat × List Int × Option Addr × Nat × Seg) (fun z => match z with | (k, out, ua, uc, ug) => k ≤ L.length ∧ out.length ≤ k ∧ Sets out ∧ OSl 3 1 (.slice ua out.length uc) out.length (ints out) ug ∧ witP (fewN L) L L [] = witP (fewN L) L (L.drop k) out) (fun z => match z with | (k, out, ua, uc, ug) => [(4, .slice none 0 0), (5, ptr b5), (6, .slice oa L.length oc), (7, .int .i64 (fewN L)), (8, .slice ua out.length uc), (20, .slice oa L.length oc), (21, .int .i64 (L.length : Int)), (22, .int .i64 (k : Int))]) (fun z => match z with | (k, out, ua, uc, ug) => ug :: [(b5, Obj.cells #[.int .i64 0] 24 (0, 0))] :: η) (fun z => L.length - z.1) (0, [], none, 0, []) ⟨Nat.zero_le _, Nat.le_refl _, fun _ h => by simp at h, OSl.nil _ _, rfl⟩ ⟨rfl, rfl, rfl, rfl, rfl, rfl, rfl, rfl, trivial⟩ rfl ?_
  rintro ⟨k, out, ua, uc, ug⟩ ⟨hk2, hol, hso, hou, hw⟩
  refine T.seq ?_
  refine T.region ?_
  refine TL.bin hF rfl rfl rfl rfl ?_
  refine TL.nil ?_
  refine TQ.then_n ?_
  refine T.seq ?_
  first | refine T.cond_d rfl (fun ht23 => ?_) (fun ht23 => ?_) | refine T.cond _ rfl (fun ht23 => ?_) (fun ht23 => ?_)
  ·refine T.skip ?_
   refine TQ.then_n ?_
   refine T.seq ?_
   refine T.block ?_
   refine T.seq ?_
   refine T.region ?_
   have hkl : k < L.length := by have h : (k : Int) < (L.length : Int) := ht23; omega
   have hdr : L.drop k = L[k] :: L.drop (k + 1) := drop_step hkl
   have hrk := hsL _ (List.getElem_mem hkl)
   rw [hdr] at hw
   refine TL.indexAddr hF rfl rfl (hrr.adi (i := k) (by simp; omega)) (by omega) (by omega) rfl ?_
   refine TL.load hF rfl (hrr.ro.int (i := k) hkl) rfl ?_
   refine TL.alloc hF rfl (fun b10 => ?_)
   refine TL.storeI hF 0 rfl rfl rfl rfl (by simp [Value.cells]) ?_
   refine TL.nil ?_
   refine TQ.then_n ?_
   refine T.seq ?_
   refine T.region ?_
   refine TL.move hF rfl rfl ?_
   refine TL.load hF rfl (own_mem (cs := #[.int .i64 L[k]]) (e := 3) (fz := (0, 0)) (by simp [Value.cells]) rfl) rfl ?_
   refine TL.buildSlice hF rfl (cs := #[.int .i64 L[k]]) (e := 3) (fun w => by kernel_rfl) rfl (fun b28 => ?_)
   refine TL.buildSlice hF rfl (cs := #[.slice ua out.length uc, .slice (some ⟨b28, 0, none⟩) 1 1]) (e := 22) (fun w => by kernel_rfl) rfl (fun b29 => ?_)
   refine TL.pick' [0, 1, 3, 2, 4] [_, _, _, _, _] rfl rfl rfl ?_
   refine TL.call hF (joined_one (ηr := [[(b29, Obj.cells #[.slice ua out.length uc, .slice (some ⟨b28, 0, none⟩) 1 1] 22 (0, 0))], [(b28, Obj.cells #[.int .i64 L[k]] 3 (0, 0))], ug]) (η2 := [(b10, Obj.cells #[.int .i64 L[k]] 3 (0, 0))] :: [(b5, Obj.cells #[.int .i64 0] 24 (0, 0))] :: η) (out := out) (s := L[k]) (row_own (e := 22) (cs := [.slice ua out.length uc, .slice (some ⟨b28, 0, none⟩) 1 1]) (by simp)) (hou.row (by simp)) (row_own (e := 3) (cs := [.int .i64 L[k]]) (by simp)) (by omega)) rfl rfl ?_
   rintro _ _ ⟨wa, wc, wg, rfl, hwo, rfl⟩
   have hle1 : (out ++ [L[k]]).length = out.length + 1 := by simp
   rw [← hle1] at hwo ⊢
   have hsw : Sets (out ++ [L[k]]) := fun x hx2 => by
    rcases List.mem_append.1 hx2 with h | h
    ·exact hso x h
    ·rw [List.mem_singleton.1 h]; exact hrk
   refine TL.alloc hF rfl (fun b11 => ?_)
   refine TL.storeI hF 0 rfl rfl rfl rfl (by simp [Value.cells]) ?_
   refine TL.nil ?_
   refine TQ.then_n ?_
   refine T.seq ?_
   refine T.region ?_
   refine TL.move hF rfl rfl ?_
   refine TL.makeFunc hF rfl rfl rfl ?_
   refine TL.call hF (filtered_fn (caps := [ptr b11]) (pW (out ++ [L[k]])) hrr (by omega) (fun x hx2 fg => wit2_fn hg1 (hsL x hx2) hsw (by rw [hle1]; omega) (hwo.row (by simp)) (b := b11) (wc := wc) (by simp [Value.cells]))) rfl rfl ?_
   rintro _ _ ⟨fa, fc, fg, rfl, hfo, rfl⟩
   have hfl : (L.filter (pW (out ++ [L[k]]))).length ≤ L.length := List.length_filter_le _ _
   have hsf : Sets (L.filter (pW (out ++ [L[k]]))) := fun x hx2 => hsL x (List.mem_filter.1 hx2).1
   have hnf : (L.filter (pW (out ++ [L[k]]))).Nodup := hnL.filter _
   have hfr := fewN_range (L.filter (pW (out ++ [L[k]])))
   have hstep : witP (fewN L) L (L[k] :: L.drop (k + 1)) out = if pW out L[k] = true ∧ fewN L ≤ ((out.length : Int) + 1) + fewN (L.filter (pW (out ++ [L[k]]))) then witP (fewN L) L (L.drop (k + 1)) (out ++ [L[k]]) else witP (fewN L) L (L.drop (k + 1)) out := rfl
   rw [hstep] at hw
   generalize L.filter (pW (out ++ [L[k]])) = R at hfo hfl hsf hnf hw hfr ⊢
   refine TL.assign hF rfl rfl ?_
   refine TL.nil ?_
   refine TQ.then_n ?_
   refine T.seq ?_
   refine T.region ?_
   refine TL.move hF rfl rfl ?_
   refine TL.makeFunc hF rfl rfl rfl ?_
   refine TL.callV hF (ContainsFunc_fn (caps := [ptr b10]) (fun y => !apartI L[k] y) (hou.row (by simp)) (by omega) (fun y hy => wit3_fn hrk (hso y hy) hg1 (b := b10) (by simp [Value.cells]))) rfl rfl ?_
   refine TL.not hF rfl rfl ?_
   refine TL.assign hF rfl rfl ?_
   refine TL.nil ?_
   refine TQ.then_n ?_
   refine T.seq ?_
   have hpw : pW out L[k] = !(out.any fun y => !apartI L[k] y) := rfl
   rcases hfit : (!(out.any fun y => !apartI L[k] y)) with _ | _
   ·refine T.draw ?_
    refine DR.stepV [_] rfl [(13, _, none)] rfl rfl ⟨⟨rfl, by kernel_rfl⟩, trivial⟩ (fun ext => TL.move hF rfl rfl TL.fin) ?_
    refine DR.stepV [_, _] rfl [(38, _, some 0)] rfl rfl ⟨⟨rfl, rfl, rfl⟩, trivial⟩ (fun ext => TL.move hF rfl rfl TL.fin) ?_
    refine DR.stepV [_, _, _] rfl [(11, _, none), (39, _, some 1)] rfl rfl ⟨⟨rfl, by kernel_rfl⟩, ⟨rfl, rfl, rfl⟩, trivial⟩ (fun ext => TL.off hF rfl rfl rfl (by first | exact hfit | rfl) rfl TL.fin) ?_
    refine DR.stepV [_, _, _, _] rfl [(40, _, some 2), (39, _, some 1)] rfl rfl ⟨⟨rfl, rfl, rfl⟩, ⟨rfl, rfl, rfl⟩, trivial⟩ (fun ext => TL.off hF rfl rfl rfl (by first | exact hfit | rfl) rfl TL.fin) ?_
    refine DR.stepV [_, _, _, _, _] rfl [(12, _, none), (39, _, some 1)] rfl rfl ⟨⟨rfl, by kernel_rfl⟩, ⟨rfl, rfl, rfl⟩, trivial⟩ (fun ext => TL.off hF rfl rfl rfl (by first | exact hfit | rfl) rfl TL.fin) ?_
    refine DR.stepV [_, _, _, _, _, _] rfl [(42, _, some 4), (39, _, some 1)] rfl rfl ⟨⟨rfl, rfl, rfl⟩, ⟨rfl, rfl, rfl⟩, trivial⟩ (fun ext => TL.off hF rfl rfl rfl (by first | exact hfit | rfl) rfl TL.fin) ?_
    refine DR.stepV [_, _, _, _, _, _, _] rfl [(41, _, some 3), (43, _, some 5), (39, _, some 1)] rfl rfl ⟨⟨rfl, rfl, rfl⟩, ⟨rfl, rfl, rfl⟩, ⟨rfl, rfl, rfl⟩, trivial⟩ (fun ext => TL.off hF rfl rfl rfl (by first | exact hfit | rfl) rfl TL.fin) ?_
    refine DR.stepV [_, _, _, _, _, _, _, _] rfl [(7, _, none), (39, _, some 1)] rfl rfl ⟨⟨rfl, by kernel_rfl⟩, ⟨rfl, rfl, rfl⟩, trivial⟩ (fun ext => TL.off hF rfl rfl rfl (by first | exact hfit | rfl) rfl TL.fin) ?_
    refine DR.done [(45, _), (44, _), (43, _), (42, _), (41, _), (40, _), (39, _), (38, _)] [_, _] mixed (by kernel_rfl) (by kernel_rfl) (by kernel_rfl) rfl rfl ?_
    refine TL.off hF rfl rfl rfl (by first | exact hfit | rfl) rfl ?_
    refine TL.pickF hF rfl (by first | exact hfit | rfl) rfl rfl ?_
    refine TL.nil ?_
    refine TQ.then_n ?_
    refine T.cond_f rfl rfl ?_
    refine T.skip ?_
    refine TQ.block_n ?_
    refine TQ.then_n ?_
    refine T.region ?_
    refine TL.add hF rfl rfl (by omega) (by omega) rfl ?_
    refine TL.move hF rfl rfl ?_
    refine TL.nil ?_
    rw [if_neg (fun h => by rw [hpw, hfit] at h; cases h.1)] at hw
    refine TQ.pick [4, 7] [_, _, _, _, _, _, _, _] rfl rfl rfl ?_
    refine TQ.round (k + 1, out, ua, uc, ug) ⟨by omega, by omega, hso, hou, hw⟩ (by dsimp only; omega) ⟨rfl, rfl, rfl, rfl, rfl, rfl, rfl, rfl, trivial⟩ rfl
   ·refine T.draw ?_
    refine DR.stepV [_] rfl [(13, _, none)] rfl rfl ⟨⟨rfl, by kernel_rfl⟩, trivial⟩ (fun ext => TL.move hF rfl rfl TL.fin) ?_
    refine DR.stepV [_, _] rfl [(38, _, some 0)] rfl rfl ⟨⟨rfl, rfl, rfl⟩, trivial⟩ (fun ext => TL.move hF rfl rfl TL.fin) ?_
    refine DR.stepV [_, _, _] rfl [(11, _, none), (39, _, some 1)] rfl rfl ⟨⟨rfl, by kernel_rfl⟩, ⟨rfl, rfl, rfl⟩, trivial⟩ (fun ext => TL.on rfl rfl rfl (by first | exact hfit | rfl) <| TL.load hF rfl (own_mem (cs := #[.slice wa (out ++ [L[k]]).length wc]) (e := 22) (fz := (0, 0)) (by simp [Value.cells]) rfl) rfl TL.fin) ?_
    refine DR.stepV [_, _, _, _] rfl [(40, _, some 2), (39, _, some 1)] rfl rfl ⟨⟨rfl, rfl, rfl⟩, ⟨rfl, rfl, rfl⟩, trivial⟩ (fun ext => TL.on rfl rfl rfl (by first | exact hfit | rfl) <| TL.len hF rfl rfl TL.fin) ?_
    refine DR.stepV [_, _, _, _, _] rfl [(12, _, none), (39, _, some 1)] rfl rfl ⟨⟨rfl, by kernel_rfl⟩, ⟨rfl, rfl, rfl⟩, trivial⟩ (fun ext => TL.on rfl rfl rfl (by first | exact hfit | rfl) <| TL.move hF rfl rfl TL.fin) ?_
    refine DR.stepV [_, _, _, _, _, _] rfl [(42, _, some 4), (39, _, some 1)] rfl rfl ⟨⟨rfl, rfl, rfl⟩, ⟨rfl, rfl, rfl⟩, trivial⟩ (fun ext => TL.on rfl rfl rfl (by first | exact hfit | rfl) <| TL.callV hF (fewest_own (ηr := [fg]) hg1 (hfo.row (by simp)) (by omega) hnf hsf) rfl rfl TL.fin) ?_
    refine DR.stepV [_, _, _, _, _, _, _] rfl [(41, _, some 3), (43, _, some 5), (39, _, some 1)] rfl rfl ⟨⟨rfl, rfl, rfl⟩, ⟨rfl, rfl, rfl⟩, ⟨rfl, rfl, rfl⟩, trivial⟩ (fun ext => TL.on rfl rfl rfl (by first | exact hfit | rfl) <| TL.add hF rfl rfl (by rw [hle1]; omega) (by rw [hle1]; omega) rfl TL.fin) ?_
    refine DR.stepV [_, _, _, _, _, _, _, _] rfl [(7, _, none), (39, _, some 1)] rfl rfl ⟨⟨rfl, by kernel_rfl⟩, ⟨rfl, rfl, rfl⟩, trivial⟩ (fun ext => TL.on rfl rfl rfl (by first | exact hfit | rfl) <| TL.move hF rfl rfl TL.fin) ?_
    refine DR.done [(45, _), (44, _), (43, _), (42, _), (41, _), (40, _), (39, _), (38, _)] [_, _] mixed (by kernel_rfl) (by kernel_rfl) (by kernel_rfl) rfl rfl ?_
    refine TL.on rfl rfl rfl (by first | exact hfit | rfl) ?_
    refine TL.bin hF rfl rfl rfl rfl ?_
    refine TL.pickT hF rfl (by first | exact hfit | rfl) rfl rfl ?_
    refine TL.nil ?_
    refine TQ.then_n ?_
    refine T.cond_d rfl (fun ht47 => ?_) (fun ht47 => ?_)
    ·refine T.region ?_
     refine TL.load hF rfl (own_mem (cs := #[.slice wa (out ++ [L[k]]).length wc]) (e := 22) (fz := (0, 0)) (by simp [Value.cells]) rfl) rfl ?_
     refine TL.assign hF rfl rfl ?_
     refine TL.nil ?_
     refine TQ.block_n ?_
     refine TQ.then_n ?_
     refine T.region ?_
     refine TL.add hF rfl rfl (by omega) (by omega) rfl ?_
     refine TL.move hF rfl rfl ?_
     refine TL.nil ?_
     rw [if_pos ⟨hpw.trans hfit, by have h : fewN L ≤ ((out ++ [L[k]]).length : Int) + fewN R := ht47; omega⟩] at hw
     refine TQ.pick [5, 7] [_, _, _, _, _, _, _, _] rfl rfl rfl ?_
     refine TQ.round (k + 1, out ++ [L[k]], wa, wc, wg) ⟨by omega, by omega, hsw, hwo, hw⟩ (by dsimp only; omega) ⟨rfl, rfl, rfl, rfl, rfl, rfl, rfl, rfl, trivial⟩ rfl
    ·refine T.skip ?_
     refine TQ.block_n ?_
     refine TQ.then_n ?_
     refine T.region ?_
     refine TL.add hF rfl rfl (by omega) (by omega) rfl ?_
     refine TL.move hF rfl rfl ?_
     refine TL.nil ?_
     rw [if_neg (fun h => by have h3 := h.2; have h4 : ¬ fewN L ≤ ((out ++ [L[k]]).length : Int) + fewN R := ht47; omega)] at hw
     refine TQ.pick [4, 7] [_, _, _, _, _, _, _, _] rfl rfl rfl ?_
     refine TQ.round (k + 1, out, ua, uc, ug) ⟨by omega, by omega, hso, hou, hw⟩ (by dsimp only; omega) ⟨rfl, rfl, rfl, rfl, rfl, rfl, rfl, rfl, trivial⟩ rfl
  ·refine T.exit ?_
   refine TQ.then_x ?_
   refine TQ.then_x ?_
   refine TQ.block_x ?_
   refine TQ.then_n ?_
   refine T.seq ?_
   refine T.region ?_
   refine TL.move hF rfl rfl ?_
   refine TL.assign hF rfl rfl ?_
   refine TL.storeI hF 1 rfl rfl rfl rfl (by decide) ?_
   refine TL.nil ?_
   refine TQ.then_n ?_
   refine T.ret ?_
   have hkn : k = L.length := by have h : ¬ (k : Int) < (L.length : Int) := ht23; omega
   rw [List.drop_of_length_le (by omega)] at hw
   refine TQ.thaw hz1 ?_
   refine TQ.retL [4] _ stop45 (stopped_nil _) rfl rfl rfl (own_mem (e := ERR) (fz := (0, 0)) (cs := #[.int .i64 0]) (by simp) rfl) ?_
   have e : witnessP cols l = (out, 0) := by unfold witnessP; rw [if_pos hk, ← hLe, hw]; rfl
   rw [e]; exact ⟨ua, uc, [og, sg, ug, _], rfl, hou.row (by simp), rfl, osl_cap hou⟩
 ·rintro _ _ ⟨he, rfl, rfl⟩
  refine TQ.then_p ?_
  refine TQ.panL [4] [.slice none 0 0] stop45 (stopped_err _) rfl rfl rfl (At.own' (i := 0) rfl rfl) ?_
  have e : witnessP cols l = ([], checkE cols l) := by unfold witnessP; rw [if_neg he]
  rw [e]; exact ⟨none, 0, [_], rfl, Row.none, rfl, Nat.le_refl _⟩
/-- The witness of valid searches. -/
def witL (l : List Int) : List Int := witP (fewN (risingS l)) (risingS l) (risingS l) []
theorem Valid.risok {m : Nat} {l : List Int} (h : Valid m l) (h1 : 1 ≤ m) (h2 : m ≤ 10) : RisOk (risingS l) := ris_ok (h.check h1 h2)
theorem Valid.few {m : Nat} {l : List Int} (h : Valid m l) (h1 : 1 ≤ m) (h2 : m ≤ 10) : fewestS (m : Int) l = (fewN l, 0) := by unfold fewestS; rw [if_pos (h.check h1 h2)]
theorem Valid.wit {m : Nat} {l : List Int} (h : Valid m l) (h1 : 1 ≤ m) (h2 : m ≤ 10) : witnessP (m : Int) l = (witL l, 0) := by unfold witnessP; rw [if_pos (h.check h1 h2)]; rfl
theorem Valid.chains {m : Nat} {l : List Int} (h : Valid m l) (h1 : 1 ≤ m) (h2 : m ≤ 10) : chainsS (m : Int) l = (chainsR (risingS l), 0) := by unfold chainsS; rw [if_pos (h.check h1 h2)]
theorem Valid.orders {m : Nat} {l : List Int} (h : Valid m l) (h1 : 1 ≤ m) (h2 : m ≤ 10) : ordersS (m : Int) l = ((chainsR (risingS l)).map (orderS m), 0) := by unfold ordersS; rw [if_pos (h.check h1 h2), Int.toNat_natCast]
theorem Valid.witL {m : Nat} {l : List Int} (h : Valid m l) (h1 : 1 ≤ m) (h2 : m ≤ 10) : Anti (witL l) ∧ Up (witL l) ∧ (∀ x ∈ witL l, x ∈ l) ∧ ((witL l).length : Int) = fewN l := by
 have hR := h.risok h1 h2
 obtain ⟨_, ha, hs, hl⟩ := wit_same hR.sets hR.up.nodup
 refine ⟨ha, hR.up.sublist hs, fun x hx => mem_rising.1 (hs.subset hx), ?_⟩
 rw [← fewN_rising (h.check h1 h2)]; exact hl
/-- What an order serves. -/
def srvd (o : List Int) (s : Int) : Bool := decide (((orF (o.take (popN s.toNat)) : Nat) : Int) = s)
theorem serves_cols {m : Nat} {o : List Int} {s : Int} (ho : Cols m o) (hl : o.length = m) (h1 : 1 ≤ m) (h2 : m ≤ 10) (hs : 1 ≤ s ∧ s < ((2 ^ m : Nat) : Int)) : servesS o s = (srvd o s, 0) := by
 subst hl
 unfold servesS srvd
 rw [if_neg (by rw [cols_isOrd ho]; intro h; rcases h with h | h | h <;> first | omega | cases h), if_neg (by omega)]
 congr 1
 obtain ⟨t, rfl⟩ : ∃ t : Nat, s = (t : Int) := ⟨s.toNat, by omega⟩
 rw [Bool.eq_iff_iff, decide_eq_true_eq, decide_eq_true_eq, Int.ofNat_inj, Int.ofNat_inj, Int.toNat_natCast]
 exact serves_same h2 ho (popN_le (by omega))
/-- Of two that one order serves one is a part of the other one. -/
theorem srvd_two {m : Nat} {o : List Int} {a b : Int} (ho : Cols m o) (hl : o.length = m) (_h2 : m ≤ 10) (ha : 0 ≤ a ∧ a < ((2 ^ m : Nat) : Int)) (hb : 0 ≤ b ∧ b < ((2 ^ m : Nat) : Int)) (h3 : srvd o a = true) (h4 : srvd o b = true) : apartI a b = false := by
 have h3 := of_decide_eq_true h3
 have h4 := of_decide_eq_true h4
 have hpa : popN a.toNat ≤ m := popN_le (by omega)
 have hpb : popN b.toNat ≤ m := popN_le (by omega)
 have key : ∀ x y : Int, ((orF (o.take (popN x.toNat)) : Nat) : Int) = x → ((orF (o.take (popN y.toNat)) : Nat) : Int) = y → popN x.toNat ≤ popN y.toNat → popN y.toNat ≤ m → underI x y = true := fun x y hx hy hle hym => by
  unfold underI
  have := orF_part ho hle (by omega)
  rw [← hx, ← hy, Int.toNat_natCast, Int.toNat_natCast]
  exact decide_eq_true this
 rw [Bool.eq_false_iff]
 intro hap
 rw [apartI_iff] at hap
 rcases Nat.le_total (popN a.toNat) (popN b.toNat) with q | q
 ·rw [key a b h3 h4 q hpb] at hap; cases hap.1
 ·rw [key b a h4 h3 q hpa] at hap; cases hap.2
theorem turned_len {a : Option Addr} {ts : List Nat} {c m : Nat} (hm1 : 1 ≤ m) (hm : m ≤ 10) (hx : Row S w0 [] a (n8 ts)) (hl : ts.length < 2 ^ 62) (hb : ∀ n ∈ ts, n < 256) :
  Rt Tryd.prog 29 [.int .i64 (m : Int), .slice a ts.length c].toArray S w0 η (fun v η' => ∃ l oa oc og, v = .slice oa l.length oc ∧ Cols m l ∧ l.length = m ∧ OSl 3 1 (.slice oa l.length oc) l.length (ints l) og ∧ η' = og :: η) :=
 (turned_law hm1 hm hx hl hb).mono fun v η' ⟨l, oa, oc, og, h1, h2, h3, h4, h5⟩ => ⟨l, oa, oc, og, by rw [h3]; exact h1, h2, h3, h4, h5⟩
theorem few_cons {x : Int} {r : List Int} (hn : (x :: r).Nodup) (hs : Sets (x :: r)) : fewN (x :: r) ≤ fewN r + 1 := by
 obtain ⟨W, h1, h2, h3⟩ := anti_ex hn
 have h4 : Anti (W.erase x) := h1.sublist List.erase_sublist
 have h5 := anti_le (l := r) (fun y hy => hs y (List.mem_cons_of_mem _ hy)) h4 (fun y hy => by
  have hy1 := List.mem_of_mem_erase hy
  rcases List.mem_cons.1 (h2 y hy1) with e | e
  ·subst e; exact (List.Nodup.not_mem_erase h1.nodup hy).elim
  ·exact e)
 have h6 : W.length ≤ (W.erase x).length + 1 := by rw [List.length_erase]; split <;> omega
 omega
theorem Valid.drop {m : Nat} {l : List Int} (h : Valid m l) (k : Nat) : Valid m (l.drop k) := ⟨h.nd.sublist (List.drop_sublist k l), by have := h.le; rw [List.length_drop]; omega, fun x hx => h.rg x (List.mem_of_mem_drop hx)⟩
theorem turn_perm (l : List Int) (k : Nat) : (l.drop k ++ l.take k).Perm l := List.perm_append_comm.trans (by rw [List.take_append_drop])
theorem Valid.perm {m : Nat} {l l' : List Int} (h : Valid m l) (hp : l'.Perm l) : Valid m l' := ⟨hp.nodup_iff.2 h.nd, by rw [hp.length_eq]; exact h.le, fun x hx => h.rg x (hp.subset hx)⟩
theorem rising_perm {l l' : List Int} (hn : l.Nodup) (hp : l'.Perm l) : risingS l' = risingS l := up_ext (rising_up (hp.nodup_iff.2 hn)) (rising_up hn) fun x => by rw [mem_rising, mem_rising, hp.mem_iff]
theorem Valid.cgood {m : Nat} {l : List Int} (h : Valid m l) (h1 : 1 ≤ m) (h2 : m ≤ 10) : (chainsR (risingS l)).length < 2 ^ 63 ∧ ∀ x ∈ chainsR (risingS l), x.length < 2 ^ 63 := by
 have q := chainsS_good (m : Int) l
 rw [h.chains h1 h2] at q; exact q
end Go.Proofs.YtfnalecnnmkgbaaDoor
/- Orders of numbers: which ones. -/
namespace Go.Proofs.YtfnalecnnmkgbaaDoor
open Go.Sl
variable {S : Nat → Prop} {w0 : World} {η : Heap}
/-- The order that numbers make, change by change. -/
def turnK (m : Nat) (ts : List Nat) : Nat → List Int
 | 0 => (List.range m).map fun (c : Nat) => (c : Int)
 | j + 1 => swp (turnK m ts j) j (if j < ts.length then j + ts.getD j 0 % (m - j) else j)
def turnS (m : Nat) (ts : List Nat) : List Int := turnK m ts m
theorem getD_nat {l : List Nat} {i : Nat} (h : i < l.length) : l.getD i 0 = l[i] := by rw [List.getD_eq_getElem?_getD, List.getElem?_eq_getElem h]; rfl
theorem turnK_ok {m : Nat} {ts : List Nat} : ∀ j, j ≤ m → Cols m (turnK m ts j) ∧ (turnK m ts j).length = m
 | 0, _ => ⟨range_cols m, by simp [turnK]⟩
 | j + 1, h => by
  have ih := turnK_ok (m := m) (ts := ts) j (by omega)
  have hk : (if j < ts.length then j + ts.getD j 0 % (m - j) else j) < m := by
   split
   ·have := Nat.mod_lt (ts.getD j 0) (show 0 < m - j by omega); omega
   ·omega
  exact ⟨swp_cols ih.1 (by omega) (by rw [ih.2]; exact hk), by show (swp _ _ _).length = m; rw [swp_len]; exact ih.2⟩
theorem turnS_ok (m : Nat) (ts : List Nat) : Cols m (turnS m ts) ∧ (turnS m ts).length = m := turnK_ok m (Nat.le_refl m)
set_option maxHeartbeats 2000000 in
theorem turned_all {a : Option Addr} {ts : List Nat} {c m : Nat} (hm1 : 1 ≤ m) (hm : m ≤ 10) (hx : Row S w0 [] a (n8 ts)) (hl : ts.length < 2 ^ 62) (hb : ∀ n ∈ ts, n < 256) :
  Rt Tryd.prog 29 [.int .i64 (m : Int), .slice a ts.length c].toArray S w0 η (fun v η' => ∃ oa oc og, v = .slice oa (turnS m ts).length oc ∧ OSl 3 1 (.slice oa (turnS m ts).length oc) (turnS m ts).length (ints (turnS m ts)) og ∧ η' = og :: η) := by
 have hF := open_wide
 refine Rt.of (fn := Tryd.f29) Tryd.func29 rfl rfl ?_
 refine T.seq ?_
 refine T.region ?_
 refine TL.assign hF rfl rfl ?_
 refine TL.nil ?_
 refine TQ.then_n ?_
 refine T.seq ?_
 refine T.region ?_
 refine TL.assign hF rfl rfl ?_
 refine TL.nil ?_
 refine TQ.then_n ?_
 refine T.seq ?_
 refine T.seq ?_
 refine T.region ?_
 refine TL.move hF rfl rfl ?_
 refine TL.move hF rfl rfl ?_
 refine TL.nil ?_
 refine TQ.then_n ?_
 refine T.block ?_
 refine T.hnil ?_
 refine T.loop (ι := Nat × Option Addr × Nat × Seg) (fun z => match z with | (i, oa, oc, og) => i ≤ m ∧ OSl 3 1 (.slice oa i oc) i (ints ((List.range i).map fun (c : Nat) => (c : Int))) og) (fun z => match z with | (i, oa, oc, og) => [(0, .int .i64 (m : Int)), (1, .slice a ts.length c), (4, .slice none 0 0), (5, .slice oa i oc), (9, .int .i64 (m : Int)), (10, .int .i64 (i : Int))]) (fun z => match z with | (i, oa, oc, og) => og :: η) (fun z => m - z.1) (0, none, 0, []) ⟨Nat.zero_le _, OSl.nil _ _⟩ ⟨rfl, rfl, rfl, rfl, rfl, rfl, trivial⟩ rfl ?_
 rintro ⟨i, oa, oc, og⟩ ⟨hi, ho⟩
 refine T.seq ?_
 refine T.region ?_
 refine TL.bin hF rfl rfl rfl rfl ?_
 refine TL.nil ?_
 refine TQ.then_n ?_
 refine T.seq ?_
 first | refine T.cond_d rfl (fun ht11 => ?_) (fun ht11 => ?_) | refine T.cond _ rfl (fun ht11 => ?_) (fun ht11 => ?_)
 ·refine T.skip ?_
  refine TQ.then_n ?_
  refine T.seq ?_
  refine T.block ?_
  refine T.seq ?_
  refine T.region ?_
  refine TL.move hF rfl rfl ?_
  refine TL.assign hF rfl rfl ?_
  refine TL.nil ?_
  refine TQ.then_n ?_
  refine T.region ?_
  refine TL.move hF rfl rfl ?_
  refine TL.move hF rfl rfl ?_
  have him : i < m := by have h : (i : Int) < (m : Int) := ht11; omega
  refine TL.buildSlice hF rfl (cs := #[.int .i64 (i : Int)]) (e := 3) (fun w => by kernel_rfl) rfl (fun b15 => ?_)
  refine TL.append hF 1 rfl rfl rfl ho (row_own (cs := [.int .i64 (i : Int)]) (e := 3) (by simp)).src rfl rfl (by simp [Value.oneCell']) (by omega) (by omega) rfl (fun pa pc pg ph => ?_)
  rw [← ints_app] at ph
  refine TL.assign hF rfl rfl ?_
  refine TL.nil ?_
  refine TQ.block_n ?_
  refine TQ.then_n ?_
  refine T.region ?_
  refine TL.add hF rfl rfl (by omega) (by omega) rfl ?_
  refine TL.move hF rfl rfl ?_
  refine TL.nil ?_
  have e1 : ((List.range (i + 1)).map fun (c : Nat) => (c : Int)) = ((List.range i).map fun (c : Nat) => (c : Int)) ++ [(i : Int)] := by rw [List.range_succ, List.map_append]; rfl
  rw [← e1] at ph
  refine TQ.pop ?_
  exact TQ.round (i + 1, pa, pc, pg) ⟨by omega, ph⟩ (by dsimp only; omega) ⟨rfl, rfl, rfl, rfl, rfl, rfl, trivial⟩ rfl
 ·refine T.exit ?_
  refine TQ.then_x ?_
  refine TQ.then_x ?_
  refine TQ.block_x ?_
  refine TQ.then_n ?_
  refine T.seq ?_
  refine T.seq ?_
  refine T.region ?_
  refine TL.move hF rfl rfl ?_
  refine TL.len hF rfl rfl ?_
  refine TL.move hF rfl rfl ?_
  refine TL.nil ?_
  refine TQ.then_n ?_
  refine T.block ?_
  have him : i = m := by have h : ¬ (i : Int) < (m : Int) := ht11; omega
  subst him
  obtain ⟨g, oc2, cur, hv, rfl, _⟩ := ho.ex (by omega)
  cases hv
  have hco := range_cols i
  refine T.loop (ι := Nat × List Int × Array Value) (fun z => match z with | (j, l, cur) => j ≤ i ∧ Cols i l ∧ l.length = i ∧ OSl 3 1 (.slice (some ⟨g, 0, none⟩) i oc) i (ints l) [(g, Obj.cells cur 3 (0, 0))] ∧ l = turnK i ts j) (fun z => match z with | (j, l, cur) => [(0, .int .i64 (i : Int)), (1, .slice a ts.length c), (4, .slice none 0 0), (5, .slice (some ⟨g, 0, none⟩) i oc), (19, .int .i64 (i : Int)), (20, .int .i64 (j : Int))]) (fun z => match z with | (j, l, cur) => [(g, Obj.cells cur 3 (0, 0))] :: η) (fun z => i - z.1) (0, ((List.range i).map fun (c : Nat) => (c : Int)), cur) ⟨Nat.zero_le _, hco, by simp, ho, rfl⟩ ⟨rfl, rfl, rfl, rfl, rfl, rfl, trivial⟩ rfl ?_
  clear ho hco
  rintro ⟨j, l, cur⟩ ⟨hj, hco, hll, ho, hlt⟩
  refine T.seq ?_
  refine T.region ?_
  refine TL.bin hF rfl rfl rfl rfl ?_
  refine TL.nil ?_
  refine TQ.then_n ?_
  refine T.seq ?_
  first | refine T.cond_d rfl (fun ht21 => ?_) (fun ht21 => ?_) | refine T.cond _ rfl (fun ht21 => ?_) (fun ht21 => ?_)
  ·refine T.skip ?_
   refine TQ.then_n ?_
   refine T.seq ?_
   refine T.block ?_
   refine T.seq ?_
   refine T.region ?_
   refine TL.move hF rfl rfl ?_
   refine TL.assign hF rfl rfl ?_
   refine TL.nil ?_
   refine TQ.then_n ?_
   refine T.seq ?_
   refine T.region ?_
   refine TL.move hF rfl rfl ?_
   refine TL.assign hF rfl rfl ?_
   refine TL.nil ?_
   refine TQ.then_n ?_
   have hji : j < i := by have h : (j : Int) < (i : Int) := ht21; omega
   refine T.cut (ι := Nat) (fun k => j ≤ k ∧ k < i ∧ k = if j < ts.length then j + ts.getD j 0 % (i - j) else j) (fun k => [(0, .int .i64 (i : Int)), (1, .slice a ts.length c), (4, .slice none 0 0), (5, .slice (some ⟨g, 0, none⟩) i oc), (19, .int .i64 (i : Int)), (20, .int .i64 (j : Int)), (7, .int .i64 (j : Int)), (8, .int .i64 (k : Int))]) (fun _ => [(g, Obj.cells cur 3 (0, 0))] :: η) ?_ ?_
   ·refine T.seq ?_
    refine T.region ?_
    refine TL.move hF rfl rfl ?_
    refine TL.move hF rfl rfl ?_
    refine TL.len hF rfl rfl ?_
    refine TL.bin hF rfl rfl rfl rfl ?_
    refine TL.nil ?_
    refine TQ.then_n ?_
    refine T.cond_d rfl (fun ht27 => ?_) (fun ht27 => ?_)
    ·refine T.region ?_
     refine TL.move hF rfl rfl ?_
     refine TL.move hF rfl rfl ?_
     refine TL.move hF rfl rfl ?_
     have hjt : j < ts.length := by have h : (j : Int) < (ts.length : Int) := ht27; omega
     have htb := hb _ (List.getElem_mem hjt)
     have hmod := Nat.mod_lt ts[j] (show 0 < i - j by omega)
     refine TL.indexAddr hF rfl rfl (hx.adi (i := j) (by simp; omega)) (by omega) (by omega) rfl ?_
     refine TL.load hF rfl (row8 hx.ro hjt) rfl ?_
     refine TL.convK hF (r := ((ts[j] : Nat) : Int)) rfl (wrap_i64 (by omega) (by omega)) rfl ?_
     refine TL.move hF rfl rfl ?_
     refine TL.move hF rfl rfl ?_
     refine TL.subK hF rfl rfl (r := ((i - j : Nat) : Int)) ((wrap_i64 (by omega) (by omega)).trans (by omega)) rfl ?_
     refine TL.remN hF (a := ts[j]) (b := i - j) rfl rfl (by omega) rfl ?_
     refine TL.addK hF rfl rfl (r := ((j + ts[j] % (i - j) : Nat) : Int)) ((wrap_i64 (by omega) (by omega)).trans (by omega)) rfl ?_
     refine TL.assign hF rfl rfl ?_
     refine TL.nil ?_
     exact TQ.cut (j + ts[j] % (i - j)) ⟨by omega, by omega, by rw [if_pos hjt, getD_nat hjt]⟩ ⟨rfl, rfl, rfl, rfl, rfl, rfl, rfl, rfl, trivial⟩ rfl
    ·refine T.skip ?_
     exact TQ.cut j ⟨Nat.le_refl _, hji, by rw [if_neg (by have h : ¬ (j : Int) < (ts.length : Int) := ht27; omega)]⟩ ⟨rfl, rfl, rfl, rfl, rfl, rfl, rfl, rfl, trivial⟩ rfl
   ·rintro k ⟨hjk, hki, hke⟩
    have hjl : j < l.length := by omega
    have hkl : k < l.length := by omega
    have hro : Row S w0 ([(g, Obj.cells cur 3 (0, 0))] :: η) (some ⟨g, 0, none⟩) (ints l) := ho.row List.mem_cons_self
    have hcu := ho.ex (by omega)
    obtain ⟨g2, cap2, cur2, hv2, hs2, hcz⟩ := hcu
    cases hs2
    clear hv2
    refine T.drawH 14 mixed ?_
    refine DH.pure (i := 0) [(5, _, none)] rfl rfl rfl rfl ⟨⟨rfl, by kernel_rfl⟩, trivial⟩ (fun _ ext => TL.move hF rfl rfl TL.fin) ?_
    refine DH.pure (i := 1) [(7, _, none)] rfl rfl rfl rfl ⟨⟨rfl, by kernel_rfl⟩, trivial⟩ (fun _ ext => TL.move hF rfl rfl TL.fin) ?_
    refine DH.pure (i := 2) [(5, _, none)] rfl rfl rfl rfl ⟨⟨rfl, by kernel_rfl⟩, trivial⟩ (fun _ ext => TL.move hF rfl rfl TL.fin) ?_
    refine DH.pure (i := 3) [(8, _, none)] rfl rfl rfl rfl ⟨⟨rfl, by kernel_rfl⟩, trivial⟩ (fun _ ext => TL.move hF rfl rfl TL.fin) ?_
    refine DH.pure (i := 4) [(5, _, none)] rfl rfl rfl rfl ⟨⟨rfl, by kernel_rfl⟩, trivial⟩ (fun _ ext => TL.move hF rfl rfl TL.fin) ?_
    refine DH.pure (i := 5) [(8, _, none)] rfl rfl rfl rfl ⟨⟨rfl, by kernel_rfl⟩, trivial⟩ (fun _ ext => TL.move hF rfl rfl TL.fin) ?_
    refine DH.pure (i := 6) [(43, _, some 4), (44, _, some 5)] rfl rfl rfl rfl ⟨⟨rfl, rfl, rfl⟩, ⟨rfl, rfl, rfl⟩, trivial⟩ (fun _ ext => TL.indexAddr hF rfl rfl (hro.adi (i := k) (by simp; omega)) (by omega) (by omega) rfl TL.fin) ?_
    refine DH.read (i := 7) [(45, _, some 6)] rfl rfl rfl rfl ⟨⟨rfl, rfl, rfl⟩, trivial⟩ (fun ext => TL.load hF rfl (hro.int (i := k) hkl) rfl TL.fin) ?_
    refine DH.pure (i := 8) [(5, _, none)] rfl rfl rfl rfl ⟨⟨rfl, by kernel_rfl⟩, trivial⟩ (fun _ ext => TL.move hF rfl rfl TL.fin) ?_
    refine DH.pure (i := 9) [(7, _, none)] rfl rfl rfl rfl ⟨⟨rfl, by kernel_rfl⟩, trivial⟩ (fun _ ext => TL.move hF rfl rfl TL.fin) ?_
    refine DH.pure (i := 10) [(47, _, some 8), (48, _, some 9)] rfl rfl rfl rfl ⟨⟨rfl, rfl, rfl⟩, ⟨rfl, rfl, rfl⟩, trivial⟩ (fun _ ext => TL.indexAddr hF rfl rfl (hro.adi (i := j) (by simp; omega)) (by omega) (by omega) rfl TL.fin) ?_
    refine DH.read (i := 11) [(49, _, some 10)] rfl rfl rfl rfl ⟨⟨rfl, rfl, rfl⟩, trivial⟩ (fun ext => TL.load hF rfl (hro.int (i := j) hjl) rfl TL.fin) ?_
    refine DH.pure (i := 12) [(39, _, some 0), (40, _, some 1)] rfl rfl rfl rfl ⟨⟨rfl, rfl, rfl⟩, ⟨rfl, rfl, rfl⟩, trivial⟩ (fun _ ext => TL.indexAddr hF rfl rfl (hro.adi (i := j) (by simp; omega)) (by omega) (by omega) rfl TL.fin) ?_
    refine DH.k1 (by kernel_rfl) (by kernel_rfl) (by kernel_rfl) (by kernel_rfl) (HBK.mk (h := 13) [] [(51, _, some 12), (46, _, some 7)] rfl rfl rfl ⟨⟨rfl, rfl, rfl⟩, ⟨rfl, rfl, rfl⟩, trivial⟩ (by kernel_rfl) (fun ext => ?_))
    refine TL.storeI hF 0 rfl rfl rfl rfl (by simp; omega) ?_
    refine TL.finKN trivial ?_
    refine DH.done [(51, _), (50, _), (49, _), (48, _), (47, _), (46, _), (45, _), (44, _), (43, _), (42, _), (41, _), (40, _), (39, _)] [_, _] (by kernel_rfl) (by kernel_rfl) (by kernel_rfl) (by kernel_rfl) rfl rfl ?_
    refine TL.indexAddr hF rfl rfl ⟨_, rfl, rfl⟩ (by omega) (by omega) rfl ?_
    refine TL.storeI hF 0 rfl rfl rfl rfl (by simp; omega) ?_
    refine TL.nil ?_
    refine TQ.block_n ?_
    refine TQ.then_n ?_
    refine T.region ?_
    refine TL.add hF rfl rfl (by omega) (by omega) rfl ?_
    refine TL.move hF rfl rfl ?_
    refine TL.nil ?_
    have h1 := OSl.put (j := j) (u := .int .i64 l[k]) ho
    rw [ints_set] at h1
    have h2 := OSl.put (j := k) (u := .int .i64 l[j]) h1
    rw [ints_set] at h2
    have hsw : (l.set j l[k]).set k l[j] = swp l j k := by unfold swp; rw [getD_get hkl, getD_get hjl]
    rw [hsw] at h2
    refine TQ.heap (η' := [(g, Obj.cells ((cur.setIfInBounds j (.int .i64 l[k])).setIfInBounds k (.int .i64 l[j])) 3 (0, 0))] :: η) (by simp) ?_
    exact TQ.round (j + 1, swp l j k, _) ⟨by omega, swp_cols hco hjl hkl, by rw [swp_len]; exact hll, h2, by show swp l j k = swp (turnK i ts j) j _; rw [← hlt, ← hke]⟩ (by dsimp only; omega) ⟨rfl, rfl, rfl, rfl, rfl, rfl, trivial⟩ rfl
  ·refine T.exit ?_
   refine TQ.then_x ?_
   refine TQ.then_x ?_
   refine TQ.block_x ?_
   refine TQ.then_n ?_
   refine T.seq ?_
   refine T.region ?_
   refine TL.move hF rfl rfl ?_
   refine TL.assign hF rfl rfl ?_
   refine TL.nil ?_
   refine TQ.then_n ?_
   refine T.ret ?_
   refine TQ.rets [4] _ rfl rfl rfl ?_
   have hjm : j = i := by have h : ¬ (j : Int) < (i : Int) := ht21; omega
   have hte : turnS i ts = l := by unfold turnS; rw [hlt, hjm]
   rw [hte]
   exact ⟨some ⟨g, 0, none⟩, oc, _, by rw [hll]; rfl, by rw [hll]; exact ho, rfl⟩
/-- Searches that orders serve need at most as many chains. -/
theorem few_orders {m : Nat} {out : List Int} {tss : List (List Nat)} (hv : Valid m out) (h2 : m ≤ 10) (h : ∀ x ∈ out, ∃ t ∈ tss, srvd (turnS m (t.take 20)) x = true) : fewN out ≤ (tss.length : Int) := by
 obtain ⟨W, hW, hWm, hWl⟩ := anti_ex hv.nd
 have hex : ∀ x ∈ W, (tss.findIdx fun t => srvd (turnS m (t.take 20)) x) < tss.length := fun x hx => by
  obtain ⟨t, ht, hs⟩ := h x (hWm x hx)
  exact List.findIdx_lt_length_of_exists ⟨t, ht, hs⟩
 have hnd : (W.map fun x => tss.findIdx fun t => srvd (turnS m (t.take 20)) x).Nodup := by
  refine List.pairwise_map.2 (List.Pairwise.imp_of_mem (fun {x y} hx hy hxy e => ?_) hW)
  have h3 := List.findIdx_getElem (w := hex x hx)
  have h4 := List.findIdx_getElem (w := hex y hy)
  have hxr := hv.rg x (hWm x hx)
  have hyr := hv.rg y (hWm y hy)
  simp only [e] at h3
  have hok := turnS_ok m ((tss[tss.findIdx fun t => srvd (turnS m (t.take 20)) y]'(hex y hy)).take 20)
  rw [srvd_two hok.1 hok.2 h2 (by omega) (by omega) h3 h4] at hxy
  cases hxy
 have h5 := hnd.length_le_of_subset (l₂ := List.range tss.length) (fun k hk => by
  obtain ⟨x, hx, rfl⟩ := List.mem_map.1 hk
  exact List.mem_range.2 (hex x hx))
 rw [List.length_map, List.length_range] at h5
 omega
end Go.Proofs.YtfnalecnnmkgbaaDoor
/- Whatever orders serve all searches. -/
namespace Go.Proofs.YtfnalecnnmkgbaaDoor
open Go.Sl
variable {S : Nat → Prop} {w0 : World} {η : Heap}
/-- Lists of numbers, by their headers. -/
abbrev HN := Option Addr × List Nat × Nat
def hn8 (p : HN) : Value := .slice p.1 p.2.1.length p.2.2
structure LN (S : Nat → Prop) (w0 : World) (η : Heap) (a : Option Addr) (ps : List HN) : Prop where
 row : Row S w0 η a (ps.map hn8)
 item : ∀ p ∈ ps, Row S w0 η p.1 (n8 p.2.1)
theorem LN.at {a : Option Addr} {ps : List HN} (h : LN S w0 η a ps) {i : Nat} (hi : i < ps.length) : At S w0 η (sAt a (i * 1)) (hn8 ps[i]) := by
 rw [Nat.mul_one]; exact h.row.cell i _ (by simp [hi])
theorem LN.old {S' : Nat → Prop} {w1 : World} {ηr : Heap} {a : Option Addr} {ps : List HN} (h : LN S w0 [] a ps) (hz : Frz S S' w0 w1 ηr) : LN S' w1 [] a ps := ⟨h.row.old hz, fun p hp => (h.item p hp).old hz⟩
theorem head8 {a : Option Addr} {l : List Nat} {c k : Nat} (hx : Row S w0 η a (n8 l)) (hk : k ≤ l.length) (hc : l.length ≤ c) : Row S w0 η (if c = 0 then a else a.map (·.add (0 * 1))) (n8 (l.take k)) := by
 have h := hx.part (c := c) (i := 0) (j := k) (sz := 1) (by simp; omega) (Nat.zero_le _) (by omega)
 have e : ((n8 l).drop (0 * 1)).take ((k - 0) * 1) = n8 (l.take k) := by simp [List.map_take]
 rw [e] at h; exact h
theorem few_zero (t : List (List Nat)) : fewN [] ≤ (t.length : Int) := by
 have : fewN [] = 0 := by decide +kernel
 rw [this]; omega
theorem serves_own {ηr η2 : Heap} {a : Option Addr} {l : List Int} {c : Nat} (s : Int) (hx : Row S w0 ηr a (ints l)) (hl : l.length < 2 ^ 63) (hc : l.length ≤ c) :
  Rt Tryd.prog 24 [.slice a l.length c, .int .i64 s].toArray S w0 (ηr ++ η2) (fun v η' => v = .tuple #[.bool (servesS l s).1, .int .i64 (servesS l s).2] ∧ ∃ segs, η' = ηr ++ (segs ++ η2)) :=
 Rt.frame ηr rfl fun S' w1 hz hb => (Serves_prog (c := c) s (hx.frz hz) hl hc).mono fun v η' ⟨h1, segs, h2⟩ => ⟨h1, segs, by rw [h2]⟩
/-- Some searches that some orders serve. -/
structure Fw (m : Nat) (l : List Int) (tss : List (List Nat)) (out : List Int) : Prop where
 nd : out.Nodup
 sub : ∀ x ∈ out, x ∈ l
 sv : ∀ x ∈ out, ∃ t ∈ tss, srvd (turnS m (t.take 20)) x = true
theorem Fw.nil (m : Nat) (l : List Int) (tss : List (List Nat)) : Fw m l tss [] := ⟨List.nodup_nil, by simp, by simp⟩
theorem Fw.add {m : Nat} {l : List Int} {tss : List (List Nat)} {out : List Int} (h : Fw m l tss out) {x : Int} (hx : x ∈ l) (hn : x ∉ out) {t : List Nat} (ht : t ∈ tss) (hs : srvd (turnS m (t.take 20)) x = true) : Fw m l tss (out ++ [x]) :=
 ⟨List.nodup_append.2 ⟨h.nd, by simp, fun p hp q hq e => by rw [List.mem_singleton.1 hq] at e; exact hn (e ▸ hp)⟩, fun y hy => (List.mem_append.1 hy).elim (h.sub y) (fun q => by rw [List.mem_singleton.1 q]; exact hx), fun y hy => (List.mem_append.1 hy).elim (h.sv y) (fun q => by rw [List.mem_singleton.1 q]; exact ⟨t, ht, hs⟩)⟩
theorem Fw.valid {m : Nat} {l : List Int} {tss : List (List Nat)} {out : List Int} (h : Fw m l tss out) (hv : Valid m l) : Valid m out :=
 ⟨h.nd, Nat.le_trans (h.nd.length_le_of_subset h.sub) hv.le, fun x hx => hv.rg x (h.sub x hx)⟩
theorem take20 (l : List Nat) : l.take (min l.length 20) = l.take 20 := by
 rcases Nat.le_total l.length 20 with h | h
 ·rw [Nat.min_eq_left h, List.take_of_length_le (Nat.le_refl _), List.take_of_length_le h]
 ·rw [Nat.min_eq_right h]
set_option maxHeartbeats 2000000 in
theorem ChainFewer_fn {n : Nat} {a ta : Option Addr} {xs : List Nat} {tss : List HN} {c tc : Nat} (hg : Kinds S w0) (hn : n < 256) (hx : Row S w0 [] a (n16 xs)) (hl : xs.length < 2 ^ 63) (hbx : ∀ n ∈ xs, n < 65536) (ht : LN S w0 [] ta tss) (hts : tss.length < 2 ^ 63) (htl : ∀ p ∈ tss, p.2.1.length < 2 ^ 63 ∧ p.2.1.length ≤ p.2.2 ∧ ∀ n ∈ p.2.1, n < 256) :
  Rt Tryd.prog 7 [.int .u8 (n : Int), .slice a xs.length c, .slice ta tss.length tc].toArray S w0 [] (fun v _ => v = .bool true) := by
 have hF := open_wide
 refine Rt.of (fn := Tryd.f7) Tryd.func7 rfl rfl ?_
 refine T.seq ?_
 refine T.region ?_
 refine TL.assign hF rfl rfl ?_
 refine TL.nil ?_
 refine TQ.then_n ?_
 refine T.seq ?_
 refine T.seq ?_
 refine T.region ?_
 refine TL.move hF rfl rfl ?_
 have hb := Back.refl S w0
 refine TL.len hF rfl rfl ?_
 refine TL.bin hF rfl rfl rfl rfl ?_
 refine TL.move hF rfl rfl ?_
 refine TL.gd (t := 21) rfl (fun g1_21 => ?_) (fun g1_21 => ?_)
 ·refine TL.off hF rfl rfl rfl (decide_eq_true g1_21) rfl ?_
  refine TL.off hF rfl rfl rfl (decide_eq_true g1_21) rfl ?_
  refine TL.off hF rfl rfl rfl (decide_eq_true g1_21) rfl ?_
  refine TL.pickT hF rfl (decide_eq_true g1_21) rfl rfl ?_
  refine TL.nil ?_
  refine TQ.then_n ?_
  refine T.cond_t rfl rfl ?_
  refine T.seq ?_
  refine T.region ?_
  refine TL.call hF (awake_fn hg) rfl rfl ?_
  rintro _ _ rfl
  refine TL.assign hF rfl rfl ?_
  refine TL.nil ?_
  refine TQ.then_n ?_
  refine T.ret ?_
  refine TQ.then_r ?_
  exact TQ.retsF [6] _ hb rfl rfl rfl (fun _ => rfl)
 ·refine TL.on rfl rfl rfl (decide_eq_false g1_21) ?_
  refine TL.move hF rfl rfl ?_
  refine TL.on rfl rfl rfl (decide_eq_false g1_21) ?_
  refine TL.len hF rfl rfl ?_
  refine TL.on rfl rfl rfl (decide_eq_false g1_21) ?_
  refine TL.bin hF rfl rfl rfl rfl ?_
  refine TL.pickF hF rfl (decide_eq_false g1_21) rfl rfl ?_
  refine TL.nil ?_
  refine TQ.then_n ?_
  refine T.cond_d rfl (fun ht25 => ?_) (fun ht25 => ?_)
  ·refine T.seq ?_
   refine T.region ?_
   refine TL.call hF (awake_fn hg) rfl rfl ?_
   rintro _ _ rfl
   refine TL.assign hF rfl rfl ?_
   refine TL.nil ?_
   refine TQ.then_n ?_
   refine T.ret ?_
   refine TQ.then_r ?_
   exact TQ.retsF [6] _ hb rfl rfl rfl (fun _ => rfl)
  ·refine T.skip ?_
   refine TQ.then_n ?_
   refine T.seq ?_
   refine T.region ?_
   refine TL.move hF rfl rfl ?_
   refine TL.callV hF (columns_law hn) rfl rfl ?_
   refine TL.assign hF rfl rfl ?_
   refine TL.nil ?_
   refine TQ.then_n ?_
   refine T.seq ?_
   refine T.region ?_
   refine TL.move hF rfl rfl ?_
   refine TL.move hF rfl rfl ?_
   obtain ⟨hc1, hc2⟩ := colN_range n
   have hval := searches_ok hc1 xs
   have hle60 : xs.length ≤ 60 := by omega
   refine TL.call hF (searches_law (m := colN n) hc1 hc2 hx (by omega) hbx) rfl rfl ?_
   rintro _ _ ⟨sa, sc, sg, rfl, hso, rfl⟩
   refine TL.freeze ([sg]) rfl (fun S1 w1 hz1 => ?_)
   replace hb := hb.frz hz1
   replace hg := hg.old hz1
   replace hx := hx.old hz1
   replace ht := ht.old hz1
   have hsr : Row S1 w1 [] sa (ints (searchesS (colN n) xs)) := (hso.row (η := [sg]) List.mem_cons_self).frz hz1
   have hsc := osl_cap hso
   clear hso
   generalize searchesS (colN n) xs = l at hval hsc hsr ⊢
   have hll := hval.le
   have hp2 := two_pow hc2
   refine TL.assign hF rfl rfl ?_
   refine TL.nil ?_
   refine TQ.then_n ?_
   refine T.seq ?_
   refine T.region ?_
   refine TL.assign hF rfl rfl ?_
   refine TL.nil ?_
   refine TQ.then_n ?_
   refine T.seq ?_
   refine T.seq ?_
   refine T.region ?_
   refine TL.move hF rfl rfl ?_
   refine TL.len hF rfl rfl ?_
   refine TL.move hF rfl rfl ?_
   refine TL.nil ?_
   refine TQ.then_n ?_
   refine T.block ?_
   refine T.hnil ?_
   refine T.loop (ι := Nat × List Int × Option Addr × Nat × Seg) (fun z => match z with | (i, out, oa, oc, og) => i ≤ l.length ∧ Fw (colN n) l (tss.map (·.2.1)) out ∧ OSl 3 1 (.slice oa out.length oc) out.length (ints out) og) (fun z => match z with | (i, out, oa, oc, og) => [(2, .slice ta tss.length tc), (6, .bool false), (7, .int .i64 ((colN n : Nat) : Int)), (9, .slice oa out.length oc), (32, .slice sa l.length sc), (33, .int .i64 (l.length : Int)), (34, .int .i64 (i : Int))]) (fun z => match z with | (i, out, oa, oc, og) => [og]) (fun z => l.length - z.1) (0, [], none, 0, []) ⟨Nat.zero_le _, Fw.nil _ _ _, OSl.nil _ _⟩ ⟨rfl, rfl, rfl, rfl, rfl, rfl, rfl, trivial⟩ rfl ?_
   rintro ⟨i, out, oa, oc, og⟩ ⟨hi, hfw, ho⟩
   refine T.seq ?_
   refine T.region ?_
   refine TL.bin hF rfl rfl rfl rfl ?_
   refine TL.nil ?_
   refine TQ.then_n ?_
   refine T.seq ?_
   first | refine T.cond_d rfl (fun ht35 => ?_) (fun ht35 => ?_) | refine T.cond _ rfl (fun ht35 => ?_) (fun ht35 => ?_)
   ·refine T.skip ?_
    refine TQ.then_n ?_
    refine T.seq ?_
    refine T.block ?_
    refine T.seq ?_
    refine T.region ?_
    have hil : i < l.length := by have h : (i : Int) < (l.length : Int) := ht35; omega
    have hal : l[i] ∈ l := List.getElem_mem hil
    have har := hval.rg _ hal
    refine TL.indexAddr hF rfl rfl (hsr.adi (i := i) (by simp; omega)) (by omega) (by omega) rfl ?_
    refine TL.load hF rfl (hsr.ro.int (i := i) hil) rfl ?_
    refine TL.assign hF rfl rfl ?_
    refine TL.nil ?_
    refine TQ.then_n ?_
    refine T.seq ?_
    refine T.region ?_
    refine TL.move hF rfl rfl ?_
    refine TL.len hF rfl rfl ?_
    refine TL.move hF rfl rfl ?_
    refine TL.nil ?_
    refine TQ.then_n ?_
    refine T.block ?_
    refine T.loop (ι := Nat × List Int × Option Addr × Nat × Seg) (fun z => match z with | (j, out, oa, oc, og) => j ≤ tss.length ∧ Fw (colN n) l (tss.map (·.2.1)) out ∧ OSl 3 1 (.slice oa out.length oc) out.length (ints out) og) (fun z => match z with | (j, out, oa, oc, og) => [(2, .slice ta tss.length tc), (6, .bool false), (7, .int .i64 ((colN n : Nat) : Int)), (9, .slice oa out.length oc), (32, .slice sa l.length sc), (33, .int .i64 (l.length : Int)), (34, .int .i64 (i : Int)), (11, .int .i64 l[i]), (38, .slice ta tss.length tc), (39, .int .i64 (tss.length : Int)), (40, .int .i64 (j : Int))]) (fun z => match z with | (j, out, oa, oc, og) => [og]) (fun z => tss.length - z.1) (0, out, oa, oc, og) ⟨Nat.zero_le _, hfw, ho⟩ ⟨rfl, rfl, rfl, rfl, rfl, rfl, rfl, rfl, rfl, rfl, rfl, trivial⟩ rfl ?_
    clear hfw ho
    rintro ⟨j, out, oa, oc, og⟩ ⟨hj, hfw, ho⟩
    refine T.seq ?_
    refine T.region ?_
    refine TL.bin hF rfl rfl rfl rfl ?_
    refine TL.nil ?_
    refine TQ.then_n ?_
    refine T.seq ?_
    first | refine T.cond_d rfl (fun ht41 => ?_) (fun ht41 => ?_) | refine T.cond _ rfl (fun ht41 => ?_) (fun ht41 => ?_)
    ·refine T.skip ?_
     refine TQ.then_n ?_
     refine T.seq ?_
     refine T.block ?_
     refine T.seq ?_
     refine T.region ?_
     have hjt : j < tss.length := by have h : (j : Int) < (tss.length : Int) := ht41; omega
     have htm : tss[j] ∈ tss := List.getElem_mem hjt
     have htp := htl tss[j] htm
     have hti := ht.item _ htm
     have hol2 : out.length ≤ 24 := (hfw.valid hval).le
     refine TL.indexAddr hF rfl rfl (ht.row.adi (i := j) (by simp; omega)) (by omega) (by omega) rfl ?_
     refine TL.load hF rfl (v := hn8 tss[j]) ((ht.at hjt).up (by simp)) rfl ?_
     refine TL.assign hF rfl rfl ?_
     refine TL.nil ?_
     refine TQ.then_n ?_
     refine T.seq ?_
     refine T.region ?_
     refine TL.move hF rfl rfl ?_
     refine TL.move hF rfl rfl ?_
     refine TL.move hF rfl rfl ?_
     refine TL.len hF rfl rfl ?_
     refine TL.min2 hF rfl rfl rfl ?_
     rw [show min ((tss[j].2.1.length : Nat) : Int) 20 = ((min tss[j].2.1.length 20 : Nat) : Int) by omega]
     refine TL.slice hF (a := tss[j].1) (l := tss[j].2.1.length) (c := tss[j].2.2) (i := 0) (j := min tss[j].2.1.length 20) rfl rfl rfl (by omega) (by omega) rfl ?_
     have htt := turned_all (η := [og]) (ts := tss[j].2.1.take (min tss[j].2.1.length 20)) (c := tss[j].2.2 - 0) hc1 hc2 (head8 hti (k := min tss[j].2.1.length 20) (by omega) htp.2.1) (by rw [List.length_take]; omega) (fun x hx2 => htp.2.2 x (List.mem_of_mem_take hx2))
     rw [List.length_take, show min (min tss[j].2.1.length 20) tss[j].2.1.length = min tss[j].2.1.length 20 - 0 by omega, take20] at htt
     refine TL.call hF htt rfl rfl ?_
     rintro _ _ ⟨xa, xc, xg, rfl, hxo, rfl⟩
     have hok := turnS_ok (colN n) (tss[j].2.1.take 20)
     have hxc := osl_cap hxo
     refine TL.move hF rfl rfl ?_
     refine TL.call hF (serves_own (ηr := [xg]) (η2 := [og]) l[i] (hxo.row List.mem_cons_self) (by rw [hok.2]; omega) hxc) rfl rfl ?_
     rintro _ _ ⟨rfl, segs, rfl⟩
     rw [serves_cols hok.1 hok.2 hc1 hc2 har]
     refine TL.hsub [og] (List.Sublist.cons _ (List.sublist_append_right _ _)) ?_
     refine TL.move hF rfl rfl ?_
     refine TL.extract hF rfl rfl rfl ?_
     refine TL.extract hF rfl rfl rfl ?_
     refine TL.assign hF rfl rfl ?_
     refine TL.assign hF rfl rfl ?_
     refine TL.nil ?_
     refine TQ.then_n ?_
     refine T.seq ?_
     refine T.region ?_
     refine TL.move hF rfl rfl ?_
     refine TL.bin hF rfl rfl rfl rfl ?_
     refine TL.nil ?_
     refine TQ.then_n ?_
     refine T.cond_f rfl rfl ?_
     refine T.seq ?_
     refine T.region ?_
     refine TL.move hF rfl rfl ?_
     refine TL.move hF rfl rfl ?_
     refine TL.gb (t := 59) rfl (fun g15_59 => ?_) (fun g15_59 => ?_)
     ·refine TL.on rfl rfl rfl g15_59 ?_
      refine TL.move hF rfl rfl ?_
      refine TL.on rfl rfl rfl g15_59 ?_
      refine TL.move hF rfl rfl ?_
      refine TL.on rfl rfl rfl g15_59 ?_
      refine TL.callV hF (Where_fn l[i] (ho.row List.mem_cons_self) (by omega)) rfl rfl ?_
      refine TL.on rfl rfl rfl g15_59 ?_
      refine TL.bin hF rfl rfl rfl rfl ?_
      refine TL.pickT hF rfl g15_59 rfl rfl ?_
      refine TL.nil ?_
      refine TQ.then_n ?_
      refine T.cond_d rfl (fun ht64 => ?_) (fun ht64 => ?_)
      ·refine T.region ?_
       refine TL.move hF rfl rfl ?_
       refine TL.move hF rfl rfl ?_
       refine TL.buildSlice hF rfl (cs := #[.int .i64 l[i]]) (e := 3) (fun w => by kernel_rfl) rfl (fun b67 => ?_)
       refine TL.append hF 1 rfl rfl rfl ho (row_own (cs := [.int .i64 l[i]]) (e := 3) (by simp)).src rfl rfl (by simp [Value.oneCell']) (by omega) (by omega) rfl (fun pa pc pg ph => ?_)
       rw [← ints_app] at ph
       refine TL.assign hF rfl rfl ?_
       refine TL.nil ?_
       refine TQ.block_n ?_
       refine TQ.then_n ?_
       refine T.region ?_
       refine TL.add hF rfl rfl (by omega) (by omega) rfl ?_
       refine TL.move hF rfl rfl ?_
       refine TL.nil ?_
       have hni : l[i] ∉ out := fun hm2 => by
        have h := whereI_mem (l := out) (n := l[i])
        rw [decide_eq_true hm2] at h
        have := of_decide_eq_true h; omega
       refine TQ.pop ?_
       refine TQ.round (j + 1, out ++ [l[i]], pa, pc, pg) ⟨hjt, hfw.add hal hni (List.mem_map_of_mem htm) g15_59, by rw [len_one]; exact ph⟩ (by dsimp only; omega) ⟨rfl, rfl, rfl, congrArg (fun n : Nat => some (Value.slice pa n pc)) len_one.symm, rfl, rfl, rfl, rfl, rfl, rfl, rfl, trivial⟩ rfl
      ·refine T.skip ?_
       refine TQ.block_n ?_
       refine TQ.then_n ?_
       refine T.region ?_
       refine TL.add hF rfl rfl (by omega) (by omega) rfl ?_
       refine TL.move hF rfl rfl ?_
       refine TL.nil ?_
       exact TQ.round (j + 1, out, oa, oc, og) ⟨hjt, hfw, ho⟩ (by dsimp only; omega) ⟨rfl, rfl, rfl, rfl, rfl, rfl, rfl, rfl, rfl, rfl, rfl, trivial⟩ rfl
     ·refine TL.off hF rfl rfl rfl g15_59 rfl ?_
      refine TL.off hF rfl rfl rfl g15_59 rfl ?_
      refine TL.off hF rfl rfl rfl g15_59 rfl ?_
      refine TL.off hF rfl rfl rfl g15_59 rfl ?_
      refine TL.pickF hF rfl g15_59 rfl rfl ?_
      refine TL.nil ?_
      refine TQ.then_n ?_
      refine T.cond_f rfl rfl ?_
      refine T.skip ?_
      refine TQ.block_n ?_
      refine TQ.then_n ?_
      refine T.region ?_
      refine TL.add hF rfl rfl (by omega) (by omega) rfl ?_
      refine TL.move hF rfl rfl ?_
      refine TL.nil ?_
      exact TQ.round (j + 1, out, oa, oc, og) ⟨hjt, hfw, ho⟩ (by dsimp only; omega) ⟨rfl, rfl, rfl, rfl, rfl, rfl, rfl, rfl, rfl, rfl, rfl, trivial⟩ rfl
    ·refine T.exit ?_
     refine TQ.then_x ?_
     refine TQ.then_x ?_
     refine TQ.block_x ?_
     refine TQ.block_n ?_
     refine TQ.then_n ?_
     refine T.region ?_
     refine TL.add hF rfl rfl (by omega) (by omega) rfl ?_
     refine TL.move hF rfl rfl ?_
     refine TL.nil ?_
     exact TQ.round (i + 1, out, oa, oc, og) ⟨hil, hfw, ho⟩ (by dsimp only; omega) ⟨rfl, rfl, rfl, rfl, rfl, rfl, rfl, trivial⟩ rfl
   ·refine T.exit ?_
    refine TQ.then_x ?_
    refine TQ.then_x ?_
    refine TQ.block_x ?_
    refine TQ.then_n ?_
    refine T.seq ?_
    refine T.region ?_
    refine TL.move hF rfl rfl ?_
    refine TL.move hF rfl rfl ?_
    have hvo := hfw.valid hval
    have hvl := hvo.le
    have hoc := osl_cap ho
    have hfo := few_orders hvo hc2 hfw.sv
    rw [List.length_map] at hfo
    refine TL.freeze ([og]) rfl (fun S2 w2 hz2 => ?_)
    replace hb := hb.frz hz2
    replace hg := hg.old hz2
    replace hx := hx.old hz2
    replace ht := ht.old hz2
    replace hsr := hsr.old hz2
    have hor : Row S2 w2 [] oa (ints out) := (ho.row (η := [og]) List.mem_cons_self).frz hz2
    refine TL.call hF (Fewest_prog ((colN n : Nat) : Int) hor (by omega) hoc hg) rfl rfl ?_
    rintro _ _ ⟨rfl, segs, rfl⟩
    rw [hvo.few hc1 hc2]
    refine TL.hsub _ (List.sublist_append_right _ _) ?_
    refine TL.move hF rfl rfl ?_
    refine TL.extract hF rfl rfl rfl ?_
    refine TL.extract hF rfl rfl rfl ?_
    refine TL.assign hF rfl rfl ?_
    refine TL.assign hF rfl rfl ?_
    refine TL.nil ?_
    refine TQ.then_n ?_
    refine T.seq ?_
    refine T.region ?_
    refine TL.move hF rfl rfl ?_
    refine TL.bin hF rfl rfl rfl rfl ?_
    refine TL.move hF rfl rfl ?_
    refine TL.on rfl rfl rfl rfl ?_
    refine TL.move hF rfl rfl ?_
    refine TL.on rfl rfl rfl rfl ?_
    refine TL.move hF rfl rfl ?_
    refine TL.on rfl rfl rfl rfl ?_
    refine TL.len hF rfl rfl ?_
    refine TL.on rfl rfl rfl rfl ?_
    refine TL.bin hF rfl rfl rfl rfl ?_
    refine TL.pickT hF rfl rfl rfl rfl ?_
    refine TL.move hF rfl rfl ?_
    refine TL.on rfl rfl rfl (decide_eq_true hfo) ?_
    refine TL.call hF (awake_fn hg) rfl rfl ?_
    rintro _ _ rfl
    refine TL.pickT hF rfl (decide_eq_true hfo) rfl rfl ?_
    refine TL.assign hF rfl rfl ?_
    refine TL.nil ?_
    refine TQ.then_n ?_
    refine T.ret ?_
    exact TQ.retsF [6] _ hb rfl rfl rfl (fun _ => rfl)
end Go.Proofs.YtfnalecnnmkgbaaDoor
/- Lists of lists of small numbers, as arguments. -/
namespace Go.Proofs.YtfnalecnnmkgbaaDoor
open Go.Sl Go.ChangeShapes Go.WideShapes Go.ChangeAt Go.Deep Go.RowKit
section
variable {H : Type} {enc : TypeId × Value → H} {W : World}
theorem u49 : Tryd.prog.underlying 49 = some (.slice 45) := by kernel_rfl
theorem k45 : Tryd.prog.cellsOf 45 = 1 := by kernel_rfl
theorem flat_hn : ∀ l : List HN, l.flatMap (fun p => [hn8 p]) = l.map hn8
  | [] => rfl
  | x :: l => by rw [List.flatMap_cons, flat_hn l]; rfl
theorem turns_read {fuel : Nat} {v : Value} {y : DataW H × List MemPlace} (h : DataW.trod enc Tryd.prog W 0 (fun _ => true) true fuel 49 [v] = some y) :
    ∃ (a : Option Addr) (ps : List HN) (cap : Nat), v = .slice a ps.length cap ∧ LN (Old W) W [] a ps ∧ ps.length < 2 ^ 63 ∧ ∀ p ∈ ps, p.2.1.length < 2 ^ 63 ∧ p.2.1.length ≤ p.2.2 ∧ ∀ n ∈ p.2.1, n < 256 := by
  obtain ⟨a, len, cap, n2, cs2, e2, _, hm, hlen, hrow, hel⟩ := slice_read u49 (by rw [k45]; omega) h
  rw [k45] at hlen hel
  obtain ⟨l, h5, h6, h7⟩ := list_read (c := 1) (Q := fun p : HN => Row (Old W) W [] p.1 (n8 p.2.1) ∧ p.2.1.length < 2 ^ 63 ∧ p.2.1.length ≤ p.2.2 ∧ ∀ n ∈ p.2.1, n < 256) (fun p => [hn8 p]) hlen (fun i hi => by
    obtain ⟨y, hy⟩ := hel i hi
    have hl1 : ((cs2.drop (i * 1)).take 1).length = 1 := by rw [List.length_take, List.length_drop, hlen]; omega
    obtain ⟨u, hu⟩ : ∃ u, (cs2.drop (i * 1)).take 1 = [u] := by
      match hq : (cs2.drop (i * 1)).take 1, hl1 with
      | [u], _ => exact ⟨u, rfl⟩
    rw [hu] at hy ⊢
    obtain ⟨a', xs, c', e', hc', hl', hr', hb'⟩ := nats_read 256 b8 u45 u5 k5 hy
    obtain ⟨a3, len3, c3, n3, cs3, e3, _, hm3, _⟩ := slice_read u45 (by rw [k5]; omega) hy
    rw [e'] at e3
    simp only [Value.slice.injEq] at e3
    unfold maxLen at hm3
    exact ⟨(a', xs, c'), by rw [e']; rfl, hr', by show xs.length < 2 ^ 63; omega, hc', hb'⟩)
  have e6 := flat_hn l
  refine ⟨a, l, cap, by rw [h5]; exact e2, ⟨by rw [← e6, ← h6]; exact hrow, fun r hr => (h7 r hr).1⟩, ?_, fun r hr => (h7 r hr).2⟩
  unfold maxLen at hm; omega
end
end Go.Proofs.YtfnalecnnmkgbaaDoor
namespace Go.Proofs.YtfnalecnnmkgbaaDoor
open Go.Sl Go.ChangeShapes Go.WideShapes Go.ChangeAt Go.RowKit
set_option maxRecDepth 100000 in
theorem chainFewer_lifted (os : Os) (started : os.Started) (H : Type) (enc : TypeId × Value → H) :
    ReturnsInHanded {} Tryd.checked os 7 .any (fun w args => (Rows.chainFewerSpec.pre enc Tryd.prog Tryd.f7 [] false w args ∧ laidMetH Tryd.prog laidL w) ∧ sizedMet enc Tryd.prog Tryd.f7 (OpenSpec.ofChange Rows.chainFewerSpec) false w args)
      (Rows.chainFewerSpec.post enc Tryd.prog Tryd.f7 false true false false) := by
  refine returnsInHanded_of_change_and (C := Tryd.checked) (X := fun w _ => laidMetH Tryd.prog laidL w) (fun _ _ _ hh h => h.of_heap hh) Tryd.own started (by kernel_rfl) Tryd.func7
    (ChangeSpec.witness_shaped (enc := enc) (C := Tryd.checked) (os := os) (X := fun w _ => laidMetH Tryd.prog laidL w) false (World.doorLaid Tryd.prog 2000 os) #[.int .u8 0, .slice none 0 0, .slice none 0 0] 8 rfl (World.shaped_of_RefB (by kernel_rfl) (by kernel_rfl)) (by kernel_rfl) (by kernel_rfl) (by kernel_rfl) (door_met os _)) ?_
  intro W base args ds gs before hval0 hW _ hwt hL _
  have hval' : ∀ (j : Nat) t v, Tryd.f7.params[j]? = some t → args[j]? = some v → Value.okWide Tryd.prog W .any base t v := hval0
  have hW' := hW
  obtain ⟨p, q, hA0, hV, rfl, hfz, hnd⟩ := hW
  have hA : DataW.TrodAll enc Tryd.prog W 0 (fun _ => true) true [5, 39, 49] args.toList ds p := hA0
  obtain ⟨v0, v1, v2, d0, d1, d2, p0, p1, p2, rfl, rfl, rfl, h0, h1, h2⟩ := trodAll_three hA
  obtain ⟨z0, rfl, _, _, wz0⟩ := open_int u5 (hval' 0 5 v0 rfl rfl) h0
  obtain ⟨hz0, hy0⟩ := wf_u8 wz0
  obtain ⟨m0, rfl⟩ : ∃ m : Nat, z0 = (m : Int) := ⟨z0.toNat, by omega⟩
  obtain ⟨_, _, _, rfl⟩ := okWide_slice u39 (hval' 1 39 v1 rfl rfl)
  obtain ⟨_, h1⟩ := h1
  obtain ⟨a1, xs1, c1, e1, hc1, hl1, hx1, hb1⟩ := nats_read 65536 b16 u39 u74 k74 h1
  obtain ⟨_, _, _, rfl⟩ := okWide_slice u49 (hval' 2 49 v2 rfl rfl)
  obtain ⟨_, h2⟩ := h2
  obtain ⟨a2, xs2, c2, e2, hx2, hl2, hb2⟩ := turns_read h2
  rw [e1, e2] at hW' ⊢
  refine (calls_true (ChainFewer_fn (kinds_of_laid hL) (n := m0) (by omega) hx1 hl1 hb1 hx2 hl2 hb2)).mono fun e W' ⟨he, hw⟩ => ⟨_, he, ?_⟩
  exact law_post (f := Tryd.f7) Tryd.laidOut rfl 4 rfl u4 hW' rfl (by decide +kernel) hw
theorem chainFewer_said : Rows.ChainFewerSaid :=
  OpenClaim.holds_of_wide 7 Tryd.f7 rfl rfl rfl rfl rfl rfl rfl ⟨rfl, rfl, rfl, rfl, rfl⟩ rfl rfl rfl rfl rfl (by kernel_rfl) Tryd.func7 (by kernel_rfl)
    (of_decide_eq_true (by kernel_rfl)) (by unfold Func.isWrapper; first | (rw [if_pos (by decide +kernel)]; kernel_rfl) | (rw [if_neg (by decide +kernel)]; exact ⟨rfl, rfl⟩))
    (fun os started H enc _ => chainFewer_lifted os started H enc)
theorem chainFewer_holds : Rows.ChainFewerCardSaid :=
  Claim7.holds_tied_plain_at .later [] [.funcs] true (true, "7ca215f89dcb56192907894ebb202dba9dfd88656de70e05d24e69a29da322ff") true
    chainFewer_said (fun _ h => by cases h) (by kernel_rfl) (fun _ h => by cases h) chainFewer_row_tie rfl ⟨rfl, rfl⟩ (by kernel_rfl) rfl
    (fun f fn hf hfn => by
      obtain rfl : f = 7 := Option.some.inj ((show Tryd.prog.funcNamed "deltaworks/deltaworkslaw17.ChainFewer" = some 7 by kernel_rfl).symm.trans hf) |>.symm
      obtain rfl : fn = Tryd.f7 := (Option.some.inj (Tryd.func7.symm.trans hfn)).symm
      exact ⟨by kernel_rfl, fun j t ht => by
        have ht2 : (#[5, 39, 49] : Array TypeId)[j]? = some t := ht
        have hm : t ∈ ([5, 39, 49] : List TypeId) := by simpa using Array.mem_of_getElem? ht2
        have hall : (([5, 39, 49] : List TypeId).all fun u => !Tryd.prog.wantsStandIn u) = true := by kernel_rfl
        exact (show Tryd.prog.wantsStandIn t = false by simpa using List.all_eq_true.1 hall t hm)⟩)
    (by kernel_rfl)
#print axioms chainFewer_holds
end Go.Proofs.YtfnalecnnmkgbaaDoor
