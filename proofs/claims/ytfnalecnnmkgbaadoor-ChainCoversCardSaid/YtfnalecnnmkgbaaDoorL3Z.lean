/- Each search is in just one chain, each chain has searches each of which is a proper part of the next one, there are as many as Fewest, and each search is served by the order of its chain: for every input. No condition. -/
import Derived.Test.YtfnalecnnmkgbaaDoorTe
import Derived.Test.YtfnalecnnmkgbaaDoorTd
import Derived.Test.YtfnalecnnmkgbaaDoorCards
import Derived.Test.YtfnalecnnmkgbaaDoorTie
/- Searches, columns, and orders, of numbers. -/
namespace Go.Proofs.YtfnalecnnmkgbaaDoor
open Go.Sl
variable {S : Nat → Prop} {w0 : World} {η : Heap}
abbrev n16 (l : List Nat) : List Value := l.map fun (n : Nat) => Value.int .u16 (n : Int)
abbrev n8 (l : List Nat) : List Value := l.map fun (n : Nat) => Value.int .u8 (n : Int)
theorem row16 {a : Option Addr} {xs : List Nat} (h : Row S w0 η a (n16 xs)) {k : Nat} (hk : k < xs.length) : At S w0 η (sAt a (k * 1)) (.int .u16 (xs[k] : Int)) := by
 rw [Nat.mul_one]; exact h.cell k _ (by simp [hk])
theorem row8 {a : Option Addr} {xs : List Nat} (h : Row S w0 η a (n8 xs)) {k : Nat} (hk : k < xs.length) : At S w0 η (sAt a (k * 1)) (.int .u8 (xs[k] : Int)) := by
 rw [Nat.mul_one]; exact h.cell k _ (by simp [hk])
def colN (n : Nat) : Nat := 1 + n % 10
theorem colN_range (n : Nat) : 1 ≤ colN n ∧ colN n ≤ 10 := by unfold colN; omega
def srchX (m n : Nat) : Int := ((1 + n % (2 ^ m - 1) : Nat) : Int)
def stepX (m : Nat) (out : List Int) (n : Nat) : List Int := if srchX m n ∉ out ∧ out.length < 24 then out ++ [srchX m n] else out
def searchesS (m : Nat) (xs : List Nat) : List Int := xs.foldl (stepX m) []
/-- Searches that are valid. -/
structure Valid (m : Nat) (l : List Int) : Prop where
 nd : l.Nodup
 le : l.length ≤ 24
 rg : ∀ x ∈ l, 1 ≤ x ∧ x < ((2 ^ m : Nat) : Int)
theorem srchX_range {m : Nat} (hm : 1 ≤ m) (n : Nat) : 1 ≤ srchX m n ∧ srchX m n < ((2 ^ m : Nat) : Int) := by
 have h1 : 2 ^ 1 ≤ 2 ^ m := Nat.pow_le_pow_right (by decide) hm
 have h2 := Nat.mod_lt n (show 0 < 2 ^ m - 1 by omega)
 unfold srchX; omega
theorem stepX_ok {m : Nat} (hm : 1 ≤ m) {out : List Int} (h : Valid m out) (n : Nat) : Valid m (stepX m out n) := by
 unfold stepX
 split
 ·rename_i q
  refine ⟨List.nodup_append.2 ⟨h.nd, by simp, fun p hp x hx e => ?_⟩, by rw [List.length_append, List.length_singleton]; omega, fun x hx => ?_⟩
  ·rw [List.mem_singleton.1 hx] at e; exact q.1 (e ▸ hp)
  ·rcases List.mem_append.1 hx with hx | hx
   ·exact h.rg x hx
   ·rw [List.mem_singleton.1 hx]; exact srchX_range hm n
 ·exact h
theorem fold_ok {m : Nat} (hm : 1 ≤ m) : ∀ (xs : List Nat) {out : List Int}, Valid m out → Valid m (xs.foldl (stepX m) out)
 | [], _, h => h
 | n :: xs, _, h => fold_ok hm xs (stepX_ok hm h n)
theorem valid_nil (m : Nat) : Valid m [] := ⟨List.nodup_nil, by simp, by simp⟩
theorem searches_ok {m : Nat} (hm : 1 ≤ m) (xs : List Nat) : Valid m (searchesS m xs) := fold_ok hm xs (valid_nil m)
theorem chkL_of {m : Nat} : ∀ {l seen : List Int}, (∀ x ∈ l, (1 ≤ x ∧ x < ((2 ^ m : Nat) : Int)) ∧ x ∉ seen) → l.Nodup → chkL m seen l = 0
 | [], _, _, _ => rfl
 | x :: r, seen, h, hn => by
  have hx := h x List.mem_cons_self
  have hn2 := List.nodup_cons.1 hn
  unfold chkL
  rw [if_pos hx.1, if_neg hx.2]
  refine chkL_of (fun y hy => ⟨(h y (List.mem_cons_of_mem _ hy)).1, fun hs => ?_⟩) hn2.2
  rcases List.mem_append.1 hs with q | q
  ·exact (h y (List.mem_cons_of_mem _ hy)).2 q
  ·rw [List.mem_singleton.1 q] at hy; exact hn2.1 hy
theorem Valid.check {m : Nat} {l : List Int} (h : Valid m l) (h1 : 1 ≤ m) (h2 : m ≤ 10) : checkE (m : Int) l = 0 := by
 unfold checkE
 have := h.le
 rw [if_neg (by omega), if_neg (by omega), Int.toNat_natCast]
 exact chkL_of (fun x hx => ⟨h.rg x hx, by simp⟩) h.nd
theorem Valid.sets {m : Nat} {l : List Int} (h : Valid m l) (h2 : m ≤ 10) : Sets l := fun x hx => by
 have := h.rg x hx
 have := two_pow h2; omega
set_option maxHeartbeats 2000000 in
theorem columns_law {n : Nat} (hn : n < 256) :
  Rt Tryd.prog 26 [.int .u8 (n : Int)].toArray S w0 η (fun v η' => v = .int .i64 ((colN n : Nat) : Int) ∧ η' = η) := by
 have hF := open_wide
 refine Rt.of (fn := Tryd.f26) Tryd.func26 rfl rfl ?_
 refine T.seq ?_
 refine T.region ?_
 refine TL.assign hF rfl rfl ?_
 refine TL.nil ?_
 refine TQ.then_n ?_
 refine T.seq ?_
 refine T.region ?_
 refine TL.move hF rfl rfl ?_
 refine TL.convK hF (r := (n : Int)) rfl (wrap_i64 (by omega) (by omega)) rfl ?_
 refine TL.remN hF (a := n) (b := 10) rfl rfl (by decide) rfl ?_
 refine TL.addK hF rfl rfl (r := ((colN n : Nat) : Int)) ((wrap_i64 (by omega) (by omega)).trans (by unfold colN; omega)) rfl ?_
 refine TL.assign hF rfl rfl ?_
 refine TL.nil ?_
 refine TQ.then_n ?_
 refine T.ret ?_
 refine TQ.rets [2] _ rfl rfl rfl ?_
 exact ⟨rfl, rfl⟩
set_option maxHeartbeats 2000000 in
theorem searches_law {a : Option Addr} {xs : List Nat} {c m : Nat} (hm1 : 1 ≤ m) (hm : m ≤ 10) (hx : Row S w0 [] a (n16 xs)) (hl : xs.length < 2 ^ 62) (hb : ∀ n ∈ xs, n < 65536) :
  Rt Tryd.prog 27 [.int .i64 (m : Int), .slice a xs.length c].toArray S w0 η (fun v η' => ∃ oa oc og, v = .slice oa (searchesS m xs).length oc ∧ OSl 3 1 (.slice oa (searchesS m xs).length oc) (searchesS m xs).length (ints (searchesS m xs)) og ∧ η' = og :: η) := by
 have hF := open_wide
 refine Rt.of (fn := Tryd.f27) Tryd.func27 rfl rfl ?_
 refine T.seq ?_
 refine T.region ?_
 refine TL.assign hF rfl rfl ?_
 refine TL.nil ?_
 refine TQ.then_n ?_
 refine T.seq ?_
 refine T.region ?_
 refine TL.assign hF rfl rfl ?_
 refine TL.nil ?_
 refine TQ.then_n ?_
 refine T.seq ?_
 refine T.seq ?_
 refine T.region ?_
 refine TL.move hF rfl rfl ?_
 refine TL.len hF rfl rfl ?_
 refine TL.move hF rfl rfl ?_
 refine TL.nil ?_
 refine TQ.then_n ?_
 refine T.block ?_
 refine T.hnil ?_
 refine T.loop (ι := Nat × List Int × Option Addr × Nat × Seg) (fun z => match z with | (k, out, oa, oc, og) => k ≤ xs.length ∧ searchesS m xs = (xs.drop k).foldl (stepX m) out ∧ out.length ≤ 24 ∧ OSl 3 1 (.slice oa out.length oc) out.length (ints out) og) (fun z => match z with | (k, out, oa, oc, og) => [(0, .int .i64 (m : Int)), (4, .slice none 0 0), (9, .slice a xs.length c), (10, .int .i64 (xs.length : Int)), (5, .slice oa out.length oc), (11, .int .i64 (k : Int))]) (fun z => match z with | (k, out, oa, oc, og) => og :: η) (fun z => xs.length - z.1) (0, [], none, 0, []) ⟨Nat.zero_le _, rfl, by simp, OSl.nil _ _⟩ ⟨rfl, rfl, rfl, rfl, rfl, rfl, trivial⟩ rfl ?_
 rintro ⟨k, out, oa, oc, og⟩ ⟨hk, hfo, hol, ho⟩
 refine T.seq ?_
 refine T.region ?_
 refine TL.bin hF rfl rfl rfl rfl ?_
 refine TL.nil ?_
 refine TQ.then_n ?_
 refine T.seq ?_
 first | refine T.cond_d rfl (fun ht12 => ?_) (fun ht12 => ?_) | refine T.cond _ rfl (fun ht12 => ?_) (fun ht12 => ?_)
 ·refine T.skip ?_
  refine TQ.then_n ?_
  refine T.seq ?_
  refine T.block ?_
  refine T.seq ?_
  refine T.region ?_
  have hkl : k < xs.length := by have h : (k : Int) < (xs.length : Int) := ht12; omega
  have hdr : xs.drop k = xs[k] :: xs.drop (k + 1) := by rw [List.drop_eq_getElem_cons hkl]
  have hxb := hb _ (List.getElem_mem hkl)
  rw [hdr, List.foldl_cons] at hfo
  have h1 : 2 ^ 1 ≤ 2 ^ m := Nat.pow_le_pow_right (by decide) hm1
  have hp := two_pow hm
  have hmod := Nat.mod_lt xs[k] (show 0 < 2 ^ m - 1 by omega)
  refine TL.indexAddr hF rfl rfl (hx.adi (i := k) (by simp; omega)) (by omega) (by omega) rfl ?_
  refine TL.load hF rfl (row16 hx.ro hkl) rfl ?_
  refine TL.assign hF rfl rfl ?_
  refine TL.nil ?_
  refine TQ.then_n ?_
  refine T.seq ?_
  refine T.region ?_
  refine TL.move hF rfl rfl ?_
  refine TL.convK hF (r := ((xs[k] : Nat) : Int)) rfl (wrap_i64 (by omega) (by omega)) rfl ?_
  refine TL.move hF rfl rfl ?_
  refine TL.shlS hF (a := 1) (s := m) rfl rfl (by omega) (by omega) rfl ?_
  refine TL.subK hF rfl rfl (r := ((2 ^ m - 1 : Nat) : Int)) (by rw [Nat.one_mul]; exact (wrap_i64 (by omega) (by omega)).trans (by omega)) rfl ?_
  refine TL.remN hF (a := xs[k]) (b := 2 ^ m - 1) rfl rfl (by omega) rfl ?_
  refine TL.addK hF rfl rfl (r := srchX m xs[k]) ((wrap_i64 (by omega) (by omega)).trans (by unfold srchX; omega)) rfl ?_
  refine TL.assign hF rfl rfl ?_
  refine TL.nil ?_
  refine TQ.then_n ?_
  refine T.seq ?_
  refine T.region ?_
  refine TL.move hF rfl rfl ?_
  refine TL.move hF rfl rfl ?_
  refine TL.callV hF (Where_fn (srchX m xs[k]) (ho.row List.mem_cons_self) (by omega)) rfl rfl ?_
  refine TL.bin hF rfl rfl rfl rfl ?_
  refine TL.move hF rfl rfl ?_
  refine TL.gd (t := 26) rfl (fun g6_26 => ?_) (fun g6_26 => ?_)
  ·refine TL.on rfl rfl rfl (decide_eq_true g6_26) ?_
   refine TL.move hF rfl rfl ?_
   refine TL.on rfl rfl rfl (decide_eq_true g6_26) ?_
   refine TL.len hF rfl rfl ?_
   refine TL.on rfl rfl rfl (decide_eq_true g6_26) ?_
   refine TL.bin hF rfl rfl rfl rfl ?_
   refine TL.pickT hF rfl (decide_eq_true g6_26) rfl rfl ?_
   refine TL.nil ?_
   refine TQ.then_n ?_
   refine T.cond_d rfl (fun ht30 => ?_) (fun ht30 => ?_)
   ·refine T.region ?_
    refine TL.move hF rfl rfl ?_
    refine TL.move hF rfl rfl ?_
    refine TL.buildSlice hF rfl (cs := #[.int .i64 (srchX m xs[k])]) (e := 3) (fun w => by kernel_rfl) rfl (fun b33 => ?_)
    refine TL.append hF 1 rfl rfl rfl ho (row_own (cs := [.int .i64 (srchX m xs[k])]) (e := 3) (by simp)).src rfl rfl (by simp [Value.oneCell']) (by omega) (by omega) rfl (fun pa pc pg ph => ?_)
    rw [← ints_app] at ph
    refine TL.assign hF rfl rfl ?_
    refine TL.nil ?_
    refine TQ.block_n ?_
    refine TQ.then_n ?_
    refine T.region ?_
    refine TL.add hF rfl rfl (by omega) (by omega) rfl ?_
    refine TL.move hF rfl rfl ?_
    refine TL.nil ?_
    have hni : srchX m xs[k] ∉ out := fun hm2 => by
     have h := whereI_mem (l := out) (n := srchX m xs[k])
     rw [decide_eq_true hm2] at h
     have := of_decide_eq_true h; omega
    have e1 : stepX m out xs[k] = out ++ [srchX m xs[k]] := by unfold stepX; exact if_pos ⟨hni, by omega⟩
    rw [e1] at hfo
    refine TQ.pop ?_
    refine TQ.round (k + 1, out ++ [srchX m xs[k]], pa, pc, pg) ⟨by omega, hfo, by rw [len_one]; omega, by rw [len_one]; exact ph⟩ (by dsimp only; omega) ⟨rfl, rfl, rfl, rfl, congrArg (fun n : Nat => some (Value.slice pa n pc)) len_one.symm, rfl, trivial⟩ rfl
   ·refine T.skip ?_
    refine TQ.block_n ?_
    refine TQ.then_n ?_
    refine T.region ?_
    refine TL.add hF rfl rfl (by omega) (by omega) rfl ?_
    refine TL.move hF rfl rfl ?_
    refine TL.nil ?_
    have e1 : stepX m out xs[k] = out := by unfold stepX; exact if_neg (fun h => by omega)
    rw [e1] at hfo
    refine TQ.round (k + 1, out, oa, oc, og) ⟨by omega, hfo, hol, ho⟩ (by dsimp only; omega) ⟨rfl, rfl, rfl, rfl, rfl, rfl, trivial⟩ rfl
  ·refine TL.off hF rfl rfl rfl (decide_eq_false g6_26) rfl ?_
   refine TL.off hF rfl rfl rfl (decide_eq_false g6_26) rfl ?_
   refine TL.off hF rfl rfl rfl (decide_eq_false g6_26) rfl ?_
   refine TL.pickF hF rfl (decide_eq_false g6_26) rfl rfl ?_
   refine TL.nil ?_
   refine TQ.then_n ?_
   refine T.cond_f rfl rfl ?_
   refine T.skip ?_
   refine TQ.block_n ?_
   refine TQ.then_n ?_
   refine T.region ?_
   refine TL.add hF rfl rfl (by omega) (by omega) rfl ?_
   refine TL.move hF rfl rfl ?_
   refine TL.nil ?_
   have e1 : stepX m out xs[k] = out := by unfold stepX; exact if_neg (fun h => by
    have h2 := whereI_mem (l := out) (n := srchX m xs[k])
    rw [decide_eq_false h.1] at h2
    have := of_decide_eq_false h2; omega)
   rw [e1] at hfo
   refine TQ.round (k + 1, out, oa, oc, og) ⟨by omega, hfo, hol, ho⟩ (by dsimp only; omega) ⟨rfl, rfl, rfl, rfl, rfl, rfl, trivial⟩ rfl
 ·refine T.exit ?_
  refine TQ.then_x ?_
  refine TQ.then_x ?_
  refine TQ.block_x ?_
  refine TQ.then_n ?_
  refine T.seq ?_
  refine T.region ?_
  refine TL.move hF rfl rfl ?_
  refine TL.assign hF rfl rfl ?_
  refine TL.nil ?_
  refine TQ.then_n ?_
  refine T.ret ?_
  refine TQ.rets [4] _ rfl rfl rfl ?_
  have hkn : k = xs.length := by have h : ¬ (k : Int) < (xs.length : Int) := ht12; omega
  rw [List.drop_of_length_le (by omega)] at hfo
  have hfo : searchesS m xs = out := hfo
  rw [hfo]
  exact ⟨oa, oc, og, rfl, ho, rfl⟩
end Go.Proofs.YtfnalecnnmkgbaaDoor
/- Orders of numbers. -/
namespace Go.Proofs.YtfnalecnnmkgbaaDoor
open Go.Sl
variable {S : Nat → Prop} {w0 : World} {η : Heap}
/-- Two places changed. -/
def swp (l : List Int) (i k : Nat) : List Int := (l.set i (l.getD k 0)).set k (l.getD i 0)
theorem swp_len (l : List Int) (i k : Nat) : (swp l i k).length = l.length := by unfold swp; rw [List.length_set, List.length_set]
theorem swp_get {l : List Int} {i k j : Nat} (hi : i < l.length) (hk : k < l.length) (hj : j < l.length) : (swp l i k)[j]'(by rw [swp_len]; exact hj) = l[if j = k then i else if j = i then k else j]'(by split <;> (try split) <;> assumption) := by
 unfold swp
 rw [List.getElem_set]
 by_cases e : k = j
 ·subst e
  simp only [if_true]
  exact getD_get hi
 ·rw [if_neg e]
  have e2 : ¬ j = k := fun q => e q.symm
  simp only [if_neg e2]
  rw [List.getElem_set]
  by_cases e3 : i = j
  ·subst e3
   simp only [if_true]
   exact getD_get hk
  ·have e4 : ¬ j = i := fun q => e3 q.symm
   simp only [if_neg e4, if_neg e3]
theorem swp_cols {n : Nat} {l : List Int} (h : Cols n l) {i k : Nat} (hi : i < l.length) (hk : k < l.length) : Cols n (swp l i k) := by
 have inj : ∀ x y (hx : x < l.length) (hy : y < l.length), l[x] = l[y] → x = y := fun x y hx hy e => by
  rcases Nat.lt_trichotomy x y with q | q | q
  ·exact (List.pairwise_iff_getElem.1 h.nd x y hx hy q e).elim
  ·exact q
  ·exact (List.pairwise_iff_getElem.1 h.nd y x hy hx q e.symm).elim
 refine ⟨List.pairwise_iff_getElem.2 fun p q hp hq hpq e => ?_, fun x hx => ?_⟩
 ·rw [swp_len] at hp hq
  rw [swp_get hi hk hp, swp_get hi hk hq] at e
  have h2 := inj _ _ _ _ e
  split at h2 <;> split at h2 <;> (try split at h2) <;> (try split at h2) <;> omega
 ·obtain ⟨j, hj, rfl⟩ := List.getElem_of_mem hx
  rw [swp_len] at hj
  rw [swp_get hi hk hj]; exact h.rg _ (List.getElem_mem _)
theorem range_cols (n : Nat) : Cols n ((List.range n).map fun (c : Nat) => (c : Int)) :=
 ⟨List.pairwise_map.2 (List.nodup_range.imp fun h e => h (by omega)), fun x hx => by
  obtain ⟨c, hc, rfl⟩ := List.mem_map.1 hx
  have := List.mem_range.1 hc; omega⟩
theorem ints_set (l : List Int) (i : Nat) (v : Int) : (ints l).set i (.int .i64 v) = ints (l.set i v) := by simp [ints, List.map_set]
set_option maxHeartbeats 2000000 in
theorem turned_law {a : Option Addr} {ts : List Nat} {c m : Nat} (hm1 : 1 ≤ m) (hm : m ≤ 10) (hx : Row S w0 [] a (n8 ts)) (hl : ts.length < 2 ^ 62) (hb : ∀ n ∈ ts, n < 256) :
  Rt Tryd.prog 29 [.int .i64 (m : Int), .slice a ts.length c].toArray S w0 η (fun v η' => ∃ l oa oc og, v = .slice oa m oc ∧ Cols m l ∧ l.length = m ∧ OSl 3 1 (.slice oa l.length oc) l.length (ints l) og ∧ η' = og :: η) := by
 have hF := open_wide
 refine Rt.of (fn := Tryd.f29) Tryd.func29 rfl rfl ?_
 refine T.seq ?_
 refine T.region ?_
 refine TL.assign hF rfl rfl ?_
 refine TL.nil ?_
 refine TQ.then_n ?_
 refine T.seq ?_
 refine T.region ?_
 refine TL.assign hF rfl rfl ?_
 refine TL.nil ?_
 refine TQ.then_n ?_
 refine T.seq ?_
 refine T.seq ?_
 refine T.region ?_
 refine TL.move hF rfl rfl ?_
 refine TL.move hF rfl rfl ?_
 refine TL.nil ?_
 refine TQ.then_n ?_
 refine T.block ?_
 refine T.hnil ?_
 refine T.loop (ι := Nat × Option Addr × Nat × Seg) (fun z => match z with | (i, oa, oc, og) => i ≤ m ∧ OSl 3 1 (.slice oa i oc) i (ints ((List.range i).map fun (c : Nat) => (c : Int))) og) (fun z => match z with | (i, oa, oc, og) => [(0, .int .i64 (m : Int)), (1, .slice a ts.length c), (4, .slice none 0 0), (5, .slice oa i oc), (9, .int .i64 (m : Int)), (10, .int .i64 (i : Int))]) (fun z => match z with | (i, oa, oc, og) => og :: η) (fun z => m - z.1) (0, none, 0, []) ⟨Nat.zero_le _, OSl.nil _ _⟩ ⟨rfl, rfl, rfl, rfl, rfl, rfl, trivial⟩ rfl ?_
 rintro ⟨i, oa, oc, og⟩ ⟨hi, ho⟩
 refine T.seq ?_
 refine T.region ?_
 refine TL.bin hF rfl rfl rfl rfl ?_
 refine TL.nil ?_
 refine TQ.then_n ?_
 refine T.seq ?_
 first | refine T.cond_d rfl (fun ht11 => ?_) (fun ht11 => ?_) | refine T.cond _ rfl (fun ht11 => ?_) (fun ht11 => ?_)
 ·refine T.skip ?_
  refine TQ.then_n ?_
  refine T.seq ?_
  refine T.block ?_
  refine T.seq ?_
  refine T.region ?_
  refine TL.move hF rfl rfl ?_
  refine TL.assign hF rfl rfl ?_
  refine TL.nil ?_
  refine TQ.then_n ?_
  refine T.region ?_
  refine TL.move hF rfl rfl ?_
  refine TL.move hF rfl rfl ?_
  have him : i < m := by have h : (i : Int) < (m : Int) := ht11; omega
  refine TL.buildSlice hF rfl (cs := #[.int .i64 (i : Int)]) (e := 3) (fun w => by kernel_rfl) rfl (fun b15 => ?_)
  refine TL.append hF 1 rfl rfl rfl ho (row_own (cs := [.int .i64 (i : Int)]) (e := 3) (by simp)).src rfl rfl (by simp [Value.oneCell']) (by omega) (by omega) rfl (fun pa pc pg ph => ?_)
  rw [← ints_app] at ph
  refine TL.assign hF rfl rfl ?_
  refine TL.nil ?_
  refine TQ.block_n ?_
  refine TQ.then_n ?_
  refine T.region ?_
  refine TL.add hF rfl rfl (by omega) (by omega) rfl ?_
  refine TL.move hF rfl rfl ?_
  refine TL.nil ?_
  have e1 : ((List.range (i + 1)).map fun (c : Nat) => (c : Int)) = ((List.range i).map fun (c : Nat) => (c : Int)) ++ [(i : Int)] := by rw [List.range_succ, List.map_append]; rfl
  rw [← e1] at ph
  refine TQ.pop ?_
  exact TQ.round (i + 1, pa, pc, pg) ⟨by omega, ph⟩ (by dsimp only; omega) ⟨rfl, rfl, rfl, rfl, rfl, rfl, trivial⟩ rfl
 ·refine T.exit ?_
  refine TQ.then_x ?_
  refine TQ.then_x ?_
  refine TQ.block_x ?_
  refine TQ.then_n ?_
  refine T.seq ?_
  refine T.seq ?_
  refine T.region ?_
  refine TL.move hF rfl rfl ?_
  refine TL.len hF rfl rfl ?_
  refine TL.move hF rfl rfl ?_
  refine TL.nil ?_
  refine TQ.then_n ?_
  refine T.block ?_
  have him : i = m := by have h : ¬ (i : Int) < (m : Int) := ht11; omega
  subst him
  obtain ⟨g, oc2, cur, hv, rfl, _⟩ := ho.ex (by omega)
  cases hv
  have hco := range_cols i
  refine T.loop (ι := Nat × List Int × Array Value) (fun z => match z with | (j, l, cur) => j ≤ i ∧ Cols i l ∧ l.length = i ∧ OSl 3 1 (.slice (some ⟨g, 0, none⟩) i oc) i (ints l) [(g, Obj.cells cur 3 (0, 0))]) (fun z => match z with | (j, l, cur) => [(0, .int .i64 (i : Int)), (1, .slice a ts.length c), (4, .slice none 0 0), (5, .slice (some ⟨g, 0, none⟩) i oc), (19, .int .i64 (i : Int)), (20, .int .i64 (j : Int))]) (fun z => match z with | (j, l, cur) => [(g, Obj.cells cur 3 (0, 0))] :: η) (fun z => i - z.1) (0, ((List.range i).map fun (c : Nat) => (c : Int)), cur) ⟨Nat.zero_le _, hco, by simp, ho⟩ ⟨rfl, rfl, rfl, rfl, rfl, rfl, trivial⟩ rfl ?_
  clear ho hco
  rintro ⟨j, l, cur⟩ ⟨hj, hco, hll, ho⟩
  refine T.seq ?_
  refine T.region ?_
  refine TL.bin hF rfl rfl rfl rfl ?_
  refine TL.nil ?_
  refine TQ.then_n ?_
  refine T.seq ?_
  first | refine T.cond_d rfl (fun ht21 => ?_) (fun ht21 => ?_) | refine T.cond _ rfl (fun ht21 => ?_) (fun ht21 => ?_)
  ·refine T.skip ?_
   refine TQ.then_n ?_
   refine T.seq ?_
   refine T.block ?_
   refine T.seq ?_
   refine T.region ?_
   refine TL.move hF rfl rfl ?_
   refine TL.assign hF rfl rfl ?_
   refine TL.nil ?_
   refine TQ.then_n ?_
   refine T.seq ?_
   refine T.region ?_
   refine TL.move hF rfl rfl ?_
   refine TL.assign hF rfl rfl ?_
   refine TL.nil ?_
   refine TQ.then_n ?_
   have hji : j < i := by have h : (j : Int) < (i : Int) := ht21; omega
   refine T.cut (ι := Nat) (fun k => j ≤ k ∧ k < i) (fun k => [(0, .int .i64 (i : Int)), (1, .slice a ts.length c), (4, .slice none 0 0), (5, .slice (some ⟨g, 0, none⟩) i oc), (19, .int .i64 (i : Int)), (20, .int .i64 (j : Int)), (7, .int .i64 (j : Int)), (8, .int .i64 (k : Int))]) (fun _ => [(g, Obj.cells cur 3 (0, 0))] :: η) ?_ ?_
   ·refine T.seq ?_
    refine T.region ?_
    refine TL.move hF rfl rfl ?_
    refine TL.move hF rfl rfl ?_
    refine TL.len hF rfl rfl ?_
    refine TL.bin hF rfl rfl rfl rfl ?_
    refine TL.nil ?_
    refine TQ.then_n ?_
    refine T.cond_d rfl (fun ht27 => ?_) (fun ht27 => ?_)
    ·refine T.region ?_
     refine TL.move hF rfl rfl ?_
     refine TL.move hF rfl rfl ?_
     refine TL.move hF rfl rfl ?_
     have hjt : j < ts.length := by have h : (j : Int) < (ts.length : Int) := ht27; omega
     have htb := hb _ (List.getElem_mem hjt)
     have hmod := Nat.mod_lt ts[j] (show 0 < i - j by omega)
     refine TL.indexAddr hF rfl rfl (hx.adi (i := j) (by simp; omega)) (by omega) (by omega) rfl ?_
     refine TL.load hF rfl (row8 hx.ro hjt) rfl ?_
     refine TL.convK hF (r := ((ts[j] : Nat) : Int)) rfl (wrap_i64 (by omega) (by omega)) rfl ?_
     refine TL.move hF rfl rfl ?_
     refine TL.move hF rfl rfl ?_
     refine TL.subK hF rfl rfl (r := ((i - j : Nat) : Int)) ((wrap_i64 (by omega) (by omega)).trans (by omega)) rfl ?_
     refine TL.remN hF (a := ts[j]) (b := i - j) rfl rfl (by omega) rfl ?_
     refine TL.addK hF rfl rfl (r := ((j + ts[j] % (i - j) : Nat) : Int)) ((wrap_i64 (by omega) (by omega)).trans (by omega)) rfl ?_
     refine TL.assign hF rfl rfl ?_
     refine TL.nil ?_
     exact TQ.cut (j + ts[j] % (i - j)) ⟨by omega, by omega⟩ ⟨rfl, rfl, rfl, rfl, rfl, rfl, rfl, rfl, trivial⟩ rfl
    ·refine T.skip ?_
     exact TQ.cut j ⟨Nat.le_refl _, hji⟩ ⟨rfl, rfl, rfl, rfl, rfl, rfl, rfl, rfl, trivial⟩ rfl
   ·rintro k ⟨hjk, hki⟩
    have hjl : j < l.length := by omega
    have hkl : k < l.length := by omega
    have hro : Row S w0 ([(g, Obj.cells cur 3 (0, 0))] :: η) (some ⟨g, 0, none⟩) (ints l) := ho.row List.mem_cons_self
    have hcu := ho.ex (by omega)
    obtain ⟨g2, cap2, cur2, hv2, hs2, hcz⟩ := hcu
    cases hs2
    clear hv2
    refine T.drawH 14 mixed ?_
    refine DH.pure (i := 0) [(5, _, none)] rfl rfl rfl rfl ⟨⟨rfl, by kernel_rfl⟩, trivial⟩ (fun _ ext => TL.move hF rfl rfl TL.fin) ?_
    refine DH.pure (i := 1) [(7, _, none)] rfl rfl rfl rfl ⟨⟨rfl, by kernel_rfl⟩, trivial⟩ (fun _ ext => TL.move hF rfl rfl TL.fin) ?_
    refine DH.pure (i := 2) [(5, _, none)] rfl rfl rfl rfl ⟨⟨rfl, by kernel_rfl⟩, trivial⟩ (fun _ ext => TL.move hF rfl rfl TL.fin) ?_
    refine DH.pure (i := 3) [(8, _, none)] rfl rfl rfl rfl ⟨⟨rfl, by kernel_rfl⟩, trivial⟩ (fun _ ext => TL.move hF rfl rfl TL.fin) ?_
    refine DH.pure (i := 4) [(5, _, none)] rfl rfl rfl rfl ⟨⟨rfl, by kernel_rfl⟩, trivial⟩ (fun _ ext => TL.move hF rfl rfl TL.fin) ?_
    refine DH.pure (i := 5) [(8, _, none)] rfl rfl rfl rfl ⟨⟨rfl, by kernel_rfl⟩, trivial⟩ (fun _ ext => TL.move hF rfl rfl TL.fin) ?_
    refine DH.pure (i := 6) [(43, _, some 4), (44, _, some 5)] rfl rfl rfl rfl ⟨⟨rfl, rfl, rfl⟩, ⟨rfl, rfl, rfl⟩, trivial⟩ (fun _ ext => TL.indexAddr hF rfl rfl (hro.adi (i := k) (by simp; omega)) (by omega) (by omega) rfl TL.fin) ?_
    refine DH.read (i := 7) [(45, _, some 6)] rfl rfl rfl rfl ⟨⟨rfl, rfl, rfl⟩, trivial⟩ (fun ext => TL.load hF rfl (hro.int (i := k) hkl) rfl TL.fin) ?_
    refine DH.pure (i := 8) [(5, _, none)] rfl rfl rfl rfl ⟨⟨rfl, by kernel_rfl⟩, trivial⟩ (fun _ ext => TL.move hF rfl rfl TL.fin) ?_
    refine DH.pure (i := 9) [(7, _, none)] rfl rfl rfl rfl ⟨⟨rfl, by kernel_rfl⟩, trivial⟩ (fun _ ext => TL.move hF rfl rfl TL.fin) ?_
    refine DH.pure (i := 10) [(47, _, some 8), (48, _, some 9)] rfl rfl rfl rfl ⟨⟨rfl, rfl, rfl⟩, ⟨rfl, rfl, rfl⟩, trivial⟩ (fun _ ext => TL.indexAddr hF rfl rfl (hro.adi (i := j) (by simp; omega)) (by omega) (by omega) rfl TL.fin) ?_
    refine DH.read (i := 11) [(49, _, some 10)] rfl rfl rfl rfl ⟨⟨rfl, rfl, rfl⟩, trivial⟩ (fun ext => TL.load hF rfl (hro.int (i := j) hjl) rfl TL.fin) ?_
    refine DH.pure (i := 12) [(39, _, some 0), (40, _, some 1)] rfl rfl rfl rfl ⟨⟨rfl, rfl, rfl⟩, ⟨rfl, rfl, rfl⟩, trivial⟩ (fun _ ext => TL.indexAddr hF rfl rfl (hro.adi (i := j) (by simp; omega)) (by omega) (by omega) rfl TL.fin) ?_
    refine DH.k1 (by kernel_rfl) (by kernel_rfl) (by kernel_rfl) (by kernel_rfl) (HBK.mk (h := 13) [] [(51, _, some 12), (46, _, some 7)] rfl rfl rfl ⟨⟨rfl, rfl, rfl⟩, ⟨rfl, rfl, rfl⟩, trivial⟩ (by kernel_rfl) (fun ext => ?_))
    refine TL.storeI hF 0 rfl rfl rfl rfl (by simp; omega) ?_
    refine TL.finKN trivial ?_
    refine DH.done [(51, _), (50, _), (49, _), (48, _), (47, _), (46, _), (45, _), (44, _), (43, _), (42, _), (41, _), (40, _), (39, _)] [_, _] (by kernel_rfl) (by kernel_rfl) (by kernel_rfl) (by kernel_rfl) rfl rfl ?_
    refine TL.indexAddr hF rfl rfl ⟨_, rfl, rfl⟩ (by omega) (by omega) rfl ?_
    refine TL.storeI hF 0 rfl rfl rfl rfl (by simp; omega) ?_
    refine TL.nil ?_
    refine TQ.block_n ?_
    refine TQ.then_n ?_
    refine T.region ?_
    refine TL.add hF rfl rfl (by omega) (by omega) rfl ?_
    refine TL.move hF rfl rfl ?_
    refine TL.nil ?_
    have h1 := OSl.put (j := j) (u := .int .i64 l[k]) ho
    rw [ints_set] at h1
    have h2 := OSl.put (j := k) (u := .int .i64 l[j]) h1
    rw [ints_set] at h2
    have hsw : (l.set j l[k]).set k l[j] = swp l j k := by unfold swp; rw [getD_get hkl, getD_get hjl]
    rw [hsw] at h2
    refine TQ.heap (η' := [(g, Obj.cells ((cur.setIfInBounds j (.int .i64 l[k])).setIfInBounds k (.int .i64 l[j])) 3 (0, 0))] :: η) (by simp) ?_
    exact TQ.round (j + 1, swp l j k, _) ⟨by omega, swp_cols hco hjl hkl, by rw [swp_len]; exact hll, h2⟩ (by dsimp only; omega) ⟨rfl, rfl, rfl, rfl, rfl, rfl, trivial⟩ rfl
  ·refine T.exit ?_
   refine TQ.then_x ?_
   refine TQ.then_x ?_
   refine TQ.block_x ?_
   refine TQ.then_n ?_
   refine T.seq ?_
   refine T.region ?_
   refine TL.move hF rfl rfl ?_
   refine TL.assign hF rfl rfl ?_
   refine TL.nil ?_
   refine TQ.then_n ?_
   refine T.ret ?_
   refine TQ.rets [4] _ rfl rfl rfl ?_
   exact ⟨l, some ⟨g, 0, none⟩, oc, _, rfl, hco, hll, by rw [hll]; exact ho, rfl⟩
end Go.Proofs.YtfnalecnnmkgbaaDoor
/- The witness with its room; what valid searches lead to; what orders serve. -/
namespace Go.Proofs.YtfnalecnnmkgbaaDoor
open Go.Sl
variable {S : Nat → Prop} {w0 : World} {η : Heap}
def ResW (S : Nat → Prop) (w0 : World) (r : List Int × Int) (η : Heap) (v : Value) (η' : Heap) : Prop := ∃ a cap segs, v = .tuple #[.slice a r.1.length cap, .int .i64 r.2] ∧ Row S w0 segs a (ints r.1) ∧ η' = segs ++ η ∧ r.1.length ≤ cap
theorem ResW.lit {r : List Int × Int} {η' : Heap} {v : Value} {L : List Int} {k : Int} (h : ResW S w0 r η v η') (e : r = (L, k)) : ∃ a cap segs, v = .tuple #[.slice a L.length cap, .int .i64 k] ∧ Row S w0 segs a (ints L) ∧ η' = segs ++ η ∧ L.length ≤ cap := by subst e; exact h
set_option maxHeartbeats 2000000 in
theorem Witness_cap {a : Option Addr} {l : List Int} {c : Nat} (cols : Int) (hx : Row S w0 [] a (ints l)) (hl : l.length < 2 ^ 63) (hc : l.length ≤ c) (hg : Kinds S w0) :
  Rt Tryd.prog 18 [.int .i64 cols, .slice a l.length c].toArray S w0 η (ResW S w0 (witnessP cols l) η) := by
 have hF := open_wide
 refine Rt.ofL (fn := Tryd.f18) Tryd.func18 rfl rfl ?_
 refine T.seq ?_
 refine T.region ?_
 refine TL.assign hF rfl rfl ?_
 refine TL.alloc hF rfl (fun b5 => ?_)
 refine TL.nil ?_
 refine TQ.then_n ?_
 refine T.seq ?_
 refine T.region ?_
 refine TL.makeFunc hF rfl rfl rfl ?_
 refine TL.defer hF rfl rfl ?_
 refine TL.nil ?_
 refine TQ.then_n ?_
 refine T.seq ?_
 refine T.region ?_
 refine TL.move hF rfl rfl ?_
 refine TL.move hF rfl rfl ?_
 refine TL.callE hF (opened_risen cols hx hl hc) rfl rfl ?_ ?_
 ·rintro _ _ ⟨L, oa, oc, og, sg, ⟨hLe, hR, hk, rfl, ho⟩, rfl⟩
  have hL24 := hR.le
  have hsL := hR.sets
  have hnL := hR.up.nodup
  refine TL.freeze [og, sg] rfl (fun S1 w1 hz1 => ?_)
  have hrr : Row S1 w1 [] oa (ints L) := (ho.row (η := [og, sg]) List.mem_cons_self).frz hz1
  have hg1 := hg.old hz1
  have hcap := osl_cap ho
  refine TL.assign hF rfl rfl ?_
  refine TL.nil ?_
  refine TQ.then_n ?_
  refine T.seq ?_
  refine T.region ?_
  refine TL.move hF rfl rfl ?_
  refine TL.callV hF (fewest_fn hg1 hrr (by omega) hnL hsL) rfl rfl ?_
  refine TL.assign hF rfl rfl ?_
  refine TL.nil ?_
  refine TQ.then_n ?_
  refine T.seq ?_
  refine T.region ?_
  refine TL.assign hF rfl rfl ?_
  refine TL.nil ?_
  refine TQ.then_n ?_
  refine T.seq ?_
  refine T.seq ?_
  refine T.region ?_
  refine TL.move hF rfl rfl ?_
  refine TL.len hF rfl rfl ?_
  refine TL.move hF rfl rfl ?_
  refine TL.nil ?_
  refine TQ.then_n ?_
  refine T.block ?_
  refine T.hnil ?_
  refine T.heap (η' := [] :: [(b5, Obj.cells #[.int .i64 0] 24 (0, 0))] :: η) (by simp [Value.cells]) ?_
  refine T.loop (ι := Nat × List Int × Option Addr × Nat × Seg) (fun z => match z with | (k, out, ua, uc, ug) => k ≤ L.length ∧ out.length ≤ k ∧ Sets out ∧ OSl 3 1 (.slice ua out.length uc) out.length (ints out) ug ∧ witP (fewN L) L L [] = witP (fewN L) L (L.drop k) out) (fun z => match z with | (k, out, ua, uc, ug) => [(4, .slice none 0 0), (5, ptr b5), (6, .slice oa L.length oc), (7, .int .i64 (fewN L)), (8, .slice ua out.length uc), (20, .slice oa L.length oc), (21, .int .i64 (L.length : Int)), (22, .int .i64 (k : Int))]) (fun z => match z with | (k, out, ua, uc, ug) => ug :: [(b5, Obj.cells #[.int .i64 0] 24 (0, 0))] :: η) (fun z => L.length - z.1) (0, [], none, 0, []) ⟨Nat.zero_le _, Nat.le_refl _, fun _ h => by simp at h, OSl.nil _ _, rfl⟩ ⟨rfl, rfl, rfl, rfl, rfl, rfl, rfl, rfl, trivial⟩ rfl ?_
  rintro ⟨k, out, ua, uc, ug⟩ ⟨hk2, hol, hso, hou, hw⟩
  refine T.seq ?_
  refine T.region ?_
  refine TL.bin hF rfl rfl rfl rfl ?_
  refine TL.nil ?_
  refine TQ.then_n ?_
  refine T.seq ?_
  first | refine T.cond_d rfl (fun ht23 => ?_) (fun ht23 => ?_) | refine T.cond _ rfl (fun ht23 => ?_) (fun ht23 => ?_)
  ·refine T.skip ?_
   refine TQ.then_n ?_
   refine T.seq ?_
   refine T.block ?_
   refine T.seq ?_
   refine T.region ?_
   have hkl : k < L.length := by have h : (k : Int) < (L.length : Int) := ht23; omega
   have hdr : L.drop k = L[k] :: L.drop (k + 1) := drop_step hkl
   have hrk := hsL _ (List.getElem_mem hkl)
   rw [hdr] at hw
   refine TL.indexAddr hF rfl rfl (hrr.adi (i := k) (by simp; omega)) (by omega) (by omega) rfl ?_
   refine TL.load hF rfl (hrr.ro.int (i := k) hkl) rfl ?_
   refine TL.alloc hF rfl (fun b10 => ?_)
   refine TL.storeI hF 0 rfl rfl rfl rfl (by simp [Value.cells]) ?_
   refine TL.nil ?_
   refine TQ.then_n ?_
   refine T.seq ?_
   refine T.region ?_
   refine TL.move hF rfl rfl ?_
   refine TL.load hF rfl (own_mem (cs := #[.int .i64 L[k]]) (e := 3) (fz := (0, 0)) (by simp [Value.cells]) rfl) rfl ?_
   refine TL.buildSlice hF rfl (cs := #[.int .i64 L[k]]) (e := 3) (fun w => by kernel_rfl) rfl (fun b28 => ?_)
   refine TL.buildSlice hF rfl (cs := #[.slice ua out.length uc, .slice (some ⟨b28, 0, none⟩) 1 1]) (e := 22) (fun w => by kernel_rfl) rfl (fun b29 => ?_)
   refine TL.pick' [0, 1, 3, 2, 4] [_, _, _, _, _] rfl rfl rfl ?_
   refine TL.call hF (joined_one (ηr := [[(b29, Obj.cells #[.slice ua out.length uc, .slice (some ⟨b28, 0, none⟩) 1 1] 22 (0, 0))], [(b28, Obj.cells #[.int .i64 L[k]] 3 (0, 0))], ug]) (η2 := [(b10, Obj.cells #[.int .i64 L[k]] 3 (0, 0))] :: [(b5, Obj.cells #[.int .i64 0] 24 (0, 0))] :: η) (out := out) (s := L[k]) (row_own (e := 22) (cs := [.slice ua out.length uc, .slice (some ⟨b28, 0, none⟩) 1 1]) (by simp)) (hou.row (by simp)) (row_own (e := 3) (cs := [.int .i64 L[k]]) (by simp)) (by omega)) rfl rfl ?_
   rintro _ _ ⟨wa, wc, wg, rfl, hwo, rfl⟩
   have hle1 : (out ++ [L[k]]).length = out.length + 1 := by simp
   rw [← hle1] at hwo ⊢
   have hsw : Sets (out ++ [L[k]]) := fun x hx2 => by
    rcases List.mem_append.1 hx2 with h | h
    ·exact hso x h
    ·rw [List.mem_singleton.1 h]; exact hrk
   refine TL.alloc hF rfl (fun b11 => ?_)
   refine TL.storeI hF 0 rfl rfl rfl rfl (by simp [Value.cells]) ?_
   refine TL.nil ?_
   refine TQ.then_n ?_
   refine T.seq ?_
   refine T.region ?_
   refine TL.move hF rfl rfl ?_
   refine TL.makeFunc hF rfl rfl rfl ?_
   refine TL.call hF (filtered_fn (caps := [ptr b11]) (pW (out ++ [L[k]])) hrr (by omega) (fun x hx2 fg => wit2_fn hg1 (hsL x hx2) hsw (by rw [hle1]; omega) (hwo.row (by simp)) (b := b11) (wc := wc) (by simp [Value.cells]))) rfl rfl ?_
   rintro _ _ ⟨fa, fc, fg, rfl, hfo, rfl⟩
   have hfl : (L.filter (pW (out ++ [L[k]]))).length ≤ L.length := List.length_filter_le _ _
   have hsf : Sets (L.filter (pW (out ++ [L[k]]))) := fun x hx2 => hsL x (List.mem_filter.1 hx2).1
   have hnf : (L.filter (pW (out ++ [L[k]]))).Nodup := hnL.filter _
   have hfr := fewN_range (L.filter (pW (out ++ [L[k]])))
   have hstep : witP (fewN L) L (L[k] :: L.drop (k + 1)) out = if pW out L[k] = true ∧ fewN L ≤ ((out.length : Int) + 1) + fewN (L.filter (pW (out ++ [L[k]]))) then witP (fewN L) L (L.drop (k + 1)) (out ++ [L[k]]) else witP (fewN L) L (L.drop (k + 1)) out := rfl
   rw [hstep] at hw
   generalize L.filter (pW (out ++ [L[k]])) = R at hfo hfl hsf hnf hw hfr ⊢
   refine TL.assign hF rfl rfl ?_
   refine TL.nil ?_
   refine TQ.then_n ?_
   refine T.seq ?_
   refine T.region ?_
   refine TL.move hF rfl rfl ?_
   refine TL.makeFunc hF rfl rfl rfl ?_
   refine TL.callV hF (ContainsFunc_fn (caps := [ptr b10]) (fun y => !apartI L[k] y) (hou.row (by simp)) (by omega) (fun y hy => wit3_fn hrk (hso y hy) hg1 (b := b10) (by simp [Value.cells]))) rfl rfl ?_
   refine TL.not hF rfl rfl ?_
   refine TL.assign hF rfl rfl ?_
   refine TL.nil ?_
   refine TQ.then_n ?_
   refine T.seq ?_
   have hpw : pW out L[k] = !(out.any fun y => !apartI L[k] y) := rfl
   rcases hfit : (!(out.any fun y => !apartI L[k] y)) with _ | _
   ·refine T.draw ?_
    refine DR.stepV [_] rfl [(13, _, none)] rfl rfl ⟨⟨rfl, by kernel_rfl⟩, trivial⟩ (fun ext => TL.move hF rfl rfl TL.fin) ?_
    refine DR.stepV [_, _] rfl [(38, _, some 0)] rfl rfl ⟨⟨rfl, rfl, rfl⟩, trivial⟩ (fun ext => TL.move hF rfl rfl TL.fin) ?_
    refine DR.stepV [_, _, _] rfl [(11, _, none), (39, _, some 1)] rfl rfl ⟨⟨rfl, by kernel_rfl⟩, ⟨rfl, rfl, rfl⟩, trivial⟩ (fun ext => TL.off hF rfl rfl rfl (by first | exact hfit | rfl) rfl TL.fin) ?_
    refine DR.stepV [_, _, _, _] rfl [(40, _, some 2), (39, _, some 1)] rfl rfl ⟨⟨rfl, rfl, rfl⟩, ⟨rfl, rfl, rfl⟩, trivial⟩ (fun ext => TL.off hF rfl rfl rfl (by first | exact hfit | rfl) rfl TL.fin) ?_
    refine DR.stepV [_, _, _, _, _] rfl [(12, _, none), (39, _, some 1)] rfl rfl ⟨⟨rfl, by kernel_rfl⟩, ⟨rfl, rfl, rfl⟩, trivial⟩ (fun ext => TL.off hF rfl rfl rfl (by first | exact hfit | rfl) rfl TL.fin) ?_
    refine DR.stepV [_, _, _, _, _, _] rfl [(42, _, some 4), (39, _, some 1)] rfl rfl ⟨⟨rfl, rfl, rfl⟩, ⟨rfl, rfl, rfl⟩, trivial⟩ (fun ext => TL.off hF rfl rfl rfl (by first | exact hfit | rfl) rfl TL.fin) ?_
    refine DR.stepV [_, _, _, _, _, _, _] rfl [(41, _, some 3), (43, _, some 5), (39, _, some 1)] rfl rfl ⟨⟨rfl, rfl, rfl⟩, ⟨rfl, rfl, rfl⟩, ⟨rfl, rfl, rfl⟩, trivial⟩ (fun ext => TL.off hF rfl rfl rfl (by first | exact hfit | rfl) rfl TL.fin) ?_
    refine DR.stepV [_, _, _, _, _, _, _, _] rfl [(7, _, none), (39, _, some 1)] rfl rfl ⟨⟨rfl, by kernel_rfl⟩, ⟨rfl, rfl, rfl⟩, trivial⟩ (fun ext => TL.off hF rfl rfl rfl (by first | exact hfit | rfl) rfl TL.fin) ?_
    refine DR.done [(45, _), (44, _), (43, _), (42, _), (41, _), (40, _), (39, _), (38, _)] [_, _] mixed (by kernel_rfl) (by kernel_rfl) (by kernel_rfl) rfl rfl ?_
    refine TL.off hF rfl rfl rfl (by first | exact hfit | rfl) rfl ?_
    refine TL.pickF hF rfl (by first | exact hfit | rfl) rfl rfl ?_
    refine TL.nil ?_
    refine TQ.then_n ?_
    refine T.cond_f rfl rfl ?_
    refine T.skip ?_
    refine TQ.block_n ?_
    refine TQ.then_n ?_
    refine T.region ?_
    refine TL.add hF rfl rfl (by omega) (by omega) rfl ?_
    refine TL.move hF rfl rfl ?_
    refine TL.nil ?_
    rw [if_neg (fun h => by rw [hpw, hfit] at h; cases h.1)] at hw
    refine TQ.pick [4, 7] [_, _, _, _, _, _, _, _] rfl rfl rfl ?_
    refine TQ.round (k + 1, out, ua, uc, ug) ⟨by omega, by omega, hso, hou, hw⟩ (by dsimp only; omega) ⟨rfl, rfl, rfl, rfl, rfl, rfl, rfl, rfl, trivial⟩ rfl
   ·refine T.draw ?_
    refine DR.stepV [_] rfl [(13, _, none)] rfl rfl ⟨⟨rfl, by kernel_rfl⟩, trivial⟩ (fun ext => TL.move hF rfl rfl TL.fin) ?_
    refine DR.stepV [_, _] rfl [(38, _, some 0)] rfl rfl ⟨⟨rfl, rfl, rfl⟩, trivial⟩ (fun ext => TL.move hF rfl rfl TL.fin) ?_
    refine DR.stepV [_, _, _] rfl [(11, _, none), (39, _, some 1)] rfl rfl ⟨⟨rfl, by kernel_rfl⟩, ⟨rfl, rfl, rfl⟩, trivial⟩ (fun ext => TL.on rfl rfl rfl (by first | exact hfit | rfl) <| TL.load hF rfl (own_mem (cs := #[.slice wa (out ++ [L[k]]).length wc]) (e := 22) (fz := (0, 0)) (by simp [Value.cells]) rfl) rfl TL.fin) ?_
    refine DR.stepV [_, _, _, _] rfl [(40, _, some 2), (39, _, some 1)] rfl rfl ⟨⟨rfl, rfl, rfl⟩, ⟨rfl, rfl, rfl⟩, trivial⟩ (fun ext => TL.on rfl rfl rfl (by first | exact hfit | rfl) <| TL.len hF rfl rfl TL.fin) ?_
    refine DR.stepV [_, _, _, _, _] rfl [(12, _, none), (39, _, some 1)] rfl rfl ⟨⟨rfl, by kernel_rfl⟩, ⟨rfl, rfl, rfl⟩, trivial⟩ (fun ext => TL.on rfl rfl rfl (by first | exact hfit | rfl) <| TL.move hF rfl rfl TL.fin) ?_
    refine DR.stepV [_, _, _, _, _, _] rfl [(42, _, some 4), (39, _, some 1)] rfl rfl ⟨⟨rfl, rfl, rfl⟩, ⟨rfl, rfl, rfl⟩, trivial⟩ (fun ext => TL.on rfl rfl rfl (by first | exact hfit | rfl) <| TL.callV hF (fewest_own (ηr := [fg]) hg1 (hfo.row (by simp)) (by omega) hnf hsf) rfl rfl TL.fin) ?_
    refine DR.stepV [_, _, _, _, _, _, _] rfl [(41, _, some 3), (43, _, some 5), (39, _, some 1)] rfl rfl ⟨⟨rfl, rfl, rfl⟩, ⟨rfl, rfl, rfl⟩, ⟨rfl, rfl, rfl⟩, trivial⟩ (fun ext => TL.on rfl rfl rfl (by first | exact hfit | rfl) <| TL.add hF rfl rfl (by rw [hle1]; omega) (by rw [hle1]; omega) rfl TL.fin) ?_
    refine DR.stepV [_, _, _, _, _, _, _, _] rfl [(7, _, none), (39, _, some 1)] rfl rfl ⟨⟨rfl, by kernel_rfl⟩, ⟨rfl, rfl, rfl⟩, trivial⟩ (fun ext => TL.on rfl rfl rfl (by first | exact hfit | rfl) <| TL.move hF rfl rfl TL.fin) ?_
    refine DR.done [(45, _), (44, _), (43, _), (42, _), (41, _), (40, _), (39, _), (38, _)] [_, _] mixed (by kernel_rfl) (by kernel_rfl) (by kernel_rfl) rfl rfl ?_
    refine TL.on rfl rfl rfl (by first | exact hfit | rfl) ?_
    refine TL.bin hF rfl rfl rfl rfl ?_
    refine TL.pickT hF rfl (by first | exact hfit | rfl) rfl rfl ?_
    refine TL.nil ?_
    refine TQ.then_n ?_
    refine T.cond_d rfl (fun ht47 => ?_) (fun ht47 => ?_)
    ·refine T.region ?_
     refine TL.load hF rfl (own_mem (cs := #[.slice wa (out ++ [L[k]]).length wc]) (e := 22) (fz := (0, 0)) (by simp [Value.cells]) rfl) rfl ?_
     refine TL.assign hF rfl rfl ?_
     refine TL.nil ?_
     refine TQ.block_n ?_
     refine TQ.then_n ?_
     refine T.region ?_
     refine TL.add hF rfl rfl (by omega) (by omega) rfl ?_
     refine TL.move hF rfl rfl ?_
     refine TL.nil ?_
     rw [if_pos ⟨hpw.trans hfit, by have h : fewN L ≤ ((out ++ [L[k]]).length : Int) + fewN R := ht47; omega⟩] at hw
     refine TQ.pick [5, 7] [_, _, _, _, _, _, _, _] rfl rfl rfl ?_
     refine TQ.round (k + 1, out ++ [L[k]], wa, wc, wg) ⟨by omega, by omega, hsw, hwo, hw⟩ (by dsimp only; omega) ⟨rfl, rfl, rfl, rfl, rfl, rfl, rfl, rfl, trivial⟩ rfl
    ·refine T.skip ?_
     refine TQ.block_n ?_
     refine TQ.then_n ?_
     refine T.region ?_
     refine TL.add hF rfl rfl (by omega) (by omega) rfl ?_
     refine TL.move hF rfl rfl ?_
     refine TL.nil ?_
     rw [if_neg (fun h => by have h3 := h.2; have h4 : ¬ fewN L ≤ ((out ++ [L[k]]).length : Int) + fewN R := ht47; omega)] at hw
     refine TQ.pick [4, 7] [_, _, _, _, _, _, _, _] rfl rfl rfl ?_
     refine TQ.round (k + 1, out, ua, uc, ug) ⟨by omega, by omega, hso, hou, hw⟩ (by dsimp only; omega) ⟨rfl, rfl, rfl, rfl, rfl, rfl, rfl, rfl, trivial⟩ rfl
  ·refine T.exit ?_
   refine TQ.then_x ?_
   refine TQ.then_x ?_
   refine TQ.block_x ?_
   refine TQ.then_n ?_
   refine T.seq ?_
   refine T.region ?_
   refine TL.move hF rfl rfl ?_
   refine TL.assign hF rfl rfl ?_
   refine TL.storeI hF 1 rfl rfl rfl rfl (by decide) ?_
   refine TL.nil ?_
   refine TQ.then_n ?_
   refine T.ret ?_
   have hkn : k = L.length := by have h : ¬ (k : Int) < (L.length : Int) := ht23; omega
   rw [List.drop_of_length_le (by omega)] at hw
   refine TQ.thaw hz1 ?_
   refine TQ.retL [4] _ stop45 (stopped_nil _) rfl rfl rfl (own_mem (e := ERR) (fz := (0, 0)) (cs := #[.int .i64 0]) (by simp) rfl) ?_
   have e : witnessP cols l = (out, 0) := by unfold witnessP; rw [if_pos hk, ← hLe, hw]; rfl
   rw [e]; exact ⟨ua, uc, [og, sg, ug, _], rfl, hou.row (by simp), rfl, osl_cap hou⟩
 ·rintro _ _ ⟨he, rfl, rfl⟩
  refine TQ.then_p ?_
  refine TQ.panL [4] [.slice none 0 0] stop45 (stopped_err _) rfl rfl rfl (At.own' (i := 0) rfl rfl) ?_
  have e : witnessP cols l = ([], checkE cols l) := by unfold witnessP; rw [if_neg he]
  rw [e]; exact ⟨none, 0, [_], rfl, Row.none, rfl, Nat.le_refl _⟩
/-- The witness of valid searches. -/
def witL (l : List Int) : List Int := witP (fewN (risingS l)) (risingS l) (risingS l) []
theorem Valid.risok {m : Nat} {l : List Int} (h : Valid m l) (h1 : 1 ≤ m) (h2 : m ≤ 10) : RisOk (risingS l) := ris_ok (h.check h1 h2)
theorem Valid.few {m : Nat} {l : List Int} (h : Valid m l) (h1 : 1 ≤ m) (h2 : m ≤ 10) : fewestS (m : Int) l = (fewN l, 0) := by unfold fewestS; rw [if_pos (h.check h1 h2)]
theorem Valid.wit {m : Nat} {l : List Int} (h : Valid m l) (h1 : 1 ≤ m) (h2 : m ≤ 10) : witnessP (m : Int) l = (witL l, 0) := by unfold witnessP; rw [if_pos (h.check h1 h2)]; rfl
theorem Valid.chains {m : Nat} {l : List Int} (h : Valid m l) (h1 : 1 ≤ m) (h2 : m ≤ 10) : chainsS (m : Int) l = (chainsR (risingS l), 0) := by unfold chainsS; rw [if_pos (h.check h1 h2)]
theorem Valid.orders {m : Nat} {l : List Int} (h : Valid m l) (h1 : 1 ≤ m) (h2 : m ≤ 10) : ordersS (m : Int) l = ((chainsR (risingS l)).map (orderS m), 0) := by unfold ordersS; rw [if_pos (h.check h1 h2), Int.toNat_natCast]
theorem Valid.witL {m : Nat} {l : List Int} (h : Valid m l) (h1 : 1 ≤ m) (h2 : m ≤ 10) : Anti (witL l) ∧ Up (witL l) ∧ (∀ x ∈ witL l, x ∈ l) ∧ ((witL l).length : Int) = fewN l := by
 have hR := h.risok h1 h2
 obtain ⟨_, ha, hs, hl⟩ := wit_same hR.sets hR.up.nodup
 refine ⟨ha, hR.up.sublist hs, fun x hx => mem_rising.1 (hs.subset hx), ?_⟩
 rw [← fewN_rising (h.check h1 h2)]; exact hl
/-- What an order serves. -/
def srvd (o : List Int) (s : Int) : Bool := decide (((orF (o.take (popN s.toNat)) : Nat) : Int) = s)
theorem serves_cols {m : Nat} {o : List Int} {s : Int} (ho : Cols m o) (hl : o.length = m) (h1 : 1 ≤ m) (h2 : m ≤ 10) (hs : 1 ≤ s ∧ s < ((2 ^ m : Nat) : Int)) : servesS o s = (srvd o s, 0) := by
 subst hl
 unfold servesS srvd
 rw [if_neg (by rw [cols_isOrd ho]; intro h; rcases h with h | h | h <;> first | omega | cases h), if_neg (by omega)]
 congr 1
 obtain ⟨t, rfl⟩ : ∃ t : Nat, s = (t : Int) := ⟨s.toNat, by omega⟩
 rw [Bool.eq_iff_iff, decide_eq_true_eq, decide_eq_true_eq, Int.ofNat_inj, Int.ofNat_inj, Int.toNat_natCast]
 exact serves_same h2 ho (popN_le (by omega))
/-- Of two that one order serves one is a part of the other one. -/
theorem srvd_two {m : Nat} {o : List Int} {a b : Int} (ho : Cols m o) (hl : o.length = m) (_h2 : m ≤ 10) (ha : 0 ≤ a ∧ a < ((2 ^ m : Nat) : Int)) (hb : 0 ≤ b ∧ b < ((2 ^ m : Nat) : Int)) (h3 : srvd o a = true) (h4 : srvd o b = true) : apartI a b = false := by
 have h3 := of_decide_eq_true h3
 have h4 := of_decide_eq_true h4
 have hpa : popN a.toNat ≤ m := popN_le (by omega)
 have hpb : popN b.toNat ≤ m := popN_le (by omega)
 have key : ∀ x y : Int, ((orF (o.take (popN x.toNat)) : Nat) : Int) = x → ((orF (o.take (popN y.toNat)) : Nat) : Int) = y → popN x.toNat ≤ popN y.toNat → popN y.toNat ≤ m → underI x y = true := fun x y hx hy hle hym => by
  unfold underI
  have := orF_part ho hle (by omega)
  rw [← hx, ← hy, Int.toNat_natCast, Int.toNat_natCast]
  exact decide_eq_true this
 rw [Bool.eq_false_iff]
 intro hap
 rw [apartI_iff] at hap
 rcases Nat.le_total (popN a.toNat) (popN b.toNat) with q | q
 ·rw [key a b h3 h4 q hpb] at hap; cases hap.1
 ·rw [key b a h4 h3 q hpa] at hap; cases hap.2
theorem turned_len {a : Option Addr} {ts : List Nat} {c m : Nat} (hm1 : 1 ≤ m) (hm : m ≤ 10) (hx : Row S w0 [] a (n8 ts)) (hl : ts.length < 2 ^ 62) (hb : ∀ n ∈ ts, n < 256) :
  Rt Tryd.prog 29 [.int .i64 (m : Int), .slice a ts.length c].toArray S w0 η (fun v η' => ∃ l oa oc og, v = .slice oa l.length oc ∧ Cols m l ∧ l.length = m ∧ OSl 3 1 (.slice oa l.length oc) l.length (ints l) og ∧ η' = og :: η) :=
 (turned_law hm1 hm hx hl hb).mono fun v η' ⟨l, oa, oc, og, h1, h2, h3, h4, h5⟩ => ⟨l, oa, oc, og, by rw [h3]; exact h1, h2, h3, h4, h5⟩
theorem few_cons {x : Int} {r : List Int} (hn : (x :: r).Nodup) (hs : Sets (x :: r)) : fewN (x :: r) ≤ fewN r + 1 := by
 obtain ⟨W, h1, h2, h3⟩ := anti_ex hn
 have h4 : Anti (W.erase x) := h1.sublist List.erase_sublist
 have h5 := anti_le (l := r) (fun y hy => hs y (List.mem_cons_of_mem _ hy)) h4 (fun y hy => by
  have hy1 := List.mem_of_mem_erase hy
  rcases List.mem_cons.1 (h2 y hy1) with e | e
  ·subst e; exact (List.Nodup.not_mem_erase h1.nodup hy).elim
  ·exact e)
 have h6 : W.length ≤ (W.erase x).length + 1 := by rw [List.length_erase]; split <;> omega
 omega
theorem Valid.drop {m : Nat} {l : List Int} (h : Valid m l) (k : Nat) : Valid m (l.drop k) := ⟨h.nd.sublist (List.drop_sublist k l), by have := h.le; rw [List.length_drop]; omega, fun x hx => h.rg x (List.mem_of_mem_drop hx)⟩
theorem turn_perm (l : List Int) (k : Nat) : (l.drop k ++ l.take k).Perm l := List.perm_append_comm.trans (by rw [List.take_append_drop])
theorem Valid.perm {m : Nat} {l l' : List Int} (h : Valid m l) (hp : l'.Perm l) : Valid m l' := ⟨hp.nodup_iff.2 h.nd, by rw [hp.length_eq]; exact h.le, fun x hx => h.rg x (hp.subset hx)⟩
theorem rising_perm {l l' : List Int} (hn : l.Nodup) (hp : l'.Perm l) : risingS l' = risingS l := up_ext (rising_up (hp.nodup_iff.2 hn)) (rising_up hn) fun x => by rw [mem_rising, mem_rising, hp.mem_iff]
theorem Valid.cgood {m : Nat} {l : List Int} (h : Valid m l) (h1 : 1 ≤ m) (h2 : m ≤ 10) : (chainsR (risingS l)).length < 2 ^ 63 ∧ ∀ x ∈ chainsR (risingS l), x.length < 2 ^ 63 := by
 have q := chainsS_good (m : Int) l
 rw [h.chains h1 h2] at q; exact q
end Go.Proofs.YtfnalecnnmkgbaaDoor
/- The cover: each search in just one chain, and as many chains as there are to be. -/
namespace Go.Proofs.YtfnalecnnmkgbaaDoor
open Go.Sl
/-- Pairs of some and of others, each once. -/
structure Prs (l m : List Int) (P : List (Int × Int)) : Prop where
  a : ∀ p ∈ P, p.1 ∈ l ∧ p.2 ∈ m ∧ partI p.1 p.2 = true
  n1 : (P.map (·.1)).Nodup
  n2 : (P.map (·.2)).Nodup
theorem nodup_inj {l : List Int} (hn : l.Nodup) {i j : Nat} (hi : i < l.length) (hj : j < l.length) (e : l.getD i 0 = l.getD j 0) : i = j := by
  rw [getD_get hi, getD_get hj] at e
  rcases Nat.lt_trichotomy i j with q | q | q
  · exact (List.pairwise_iff_getElem.1 hn i j hi hj q e).elim
  · exact q
  · exact (List.pairwise_iff_getElem.1 hn j i hj hi q e.symm).elim
theorem map_inj {P : List (Int × Int)} {f : Int × Int → Int} (hn : (P.map f).Nodup) {p q : Int × Int} (hp : p ∈ P) (hq : q ∈ P) (e : f p = f q) : p = q := by
  obtain ⟨i, hi, rfl⟩ := List.getElem_of_mem hp
  obtain ⟨j, hj, rfl⟩ := List.getElem_of_mem hq
  have h := nodup_inj hn (i := i) (j := j) (by simpa using hi) (by simpa using hj) (by rw [getD_get (by simpa using hi), getD_get (by simpa using hj)]; simpa using e)
  subst h; rfl
theorem idx_getD {l : List Int} {x : Int} (h : x ∈ l) : l.getD (l.idxOf x) 0 = x := by rw [getD_get (idx_lt h), idx_get h]
def prG (P : List (Int × Int)) (l m : List Int) (i : Nat) : Int := match P.find? (fun p => decide (p.1 = l.getD i 0)) with | some p => (m.idxOf p.2 : Int) | none => -1
/-- Pairs are not more than are found. -/
theorem prs_le {l m : List Int} {P : List (Int × Int)} (hl : l.Nodup) (h : Prs l m P) : P.length ≤ matchN l m := by
  have hg : ∀ i, 0 ≤ prG P l m i → ∃ p ∈ P, p.1 = l.getD i 0 ∧ prG P l m i = (m.idxOf p.2 : Int) := fun i h0 => by
    unfold prG at h0 ⊢
    cases hf : P.find? (fun p => decide (p.1 = l.getD i 0)) with
    | none => rw [hf] at h0; have h0 : (0 : Int) ≤ -1 := h0; omega
    | some p => exact ⟨p, List.mem_of_find?_eq_some hf, of_decide_eq_true (List.find?_some (p := fun p : Int × Int => decide (p.1 = l.getD i 0)) hf), rfl⟩
  refine Nat.le_trans ?_ (numM_most (E := EPt l m) (n := m.length) (K := l.length) (g := prG P l m) (fun i hi h0 => ?_) (fun i j hi hj h0 e => ?_))
  · refine Nat.le_trans (Nat.le_of_eq (cnt_true (n := P.length)).symm) ?_
    refine cnt_inj (fun k => l.idxOf (P.getD k (0, 0)).1) (fun k hk _ => ?_) (fun i j hi hj _ _ e => ?_)
    · have hm : P.getD k (0, 0) ∈ P := by rw [List.getD_eq_getElem?_getD, List.getElem?_eq_getElem hk]; exact List.getElem_mem hk
      have hin := (h.a _ hm).1
      refine ⟨idx_lt hin, ?_⟩
      refine decide_eq_true ?_
      unfold prG
      cases hf : P.find? (fun p => decide (p.1 = l.getD (l.idxOf (P.getD k (0, 0)).1) 0)) with
      | none =>
        rw [List.find?_eq_none] at hf
        exact (hf _ hm (decide_eq_true (idx_getD hin).symm)).elim
      | some p => show (0 : Int) ≤ (m.idxOf p.2 : Int); omega
    · have hmi : P.getD i (0, 0) = P[i] := by rw [List.getD_eq_getElem?_getD, List.getElem?_eq_getElem hi]; rfl
      have hmj : P.getD j (0, 0) = P[j] := by rw [List.getD_eq_getElem?_getD, List.getElem?_eq_getElem hj]; rfl
      rw [hmi, hmj] at e
      have h1 := idx_getD (h.a _ (List.getElem_mem hi)).1
      have h2 := idx_getD (h.a _ (List.getElem_mem hj)).1
      rw [e, h2] at h1
      rcases Nat.lt_trichotomy i j with q | q | q
      · exact (List.pairwise_iff_getElem.1 (List.pairwise_map.1 h.n1) i j hi hj q h1.symm).elim
      · exact q
      · exact (List.pairwise_iff_getElem.1 (List.pairwise_map.1 h.n1) j i hj hi q h1).elim
  · obtain ⟨p, hp, he, hgi⟩ := hg i h0
    have ha := h.a p hp
    rw [hgi, Int.toNat_natCast]
    refine ⟨idx_lt ha.2.1, ?_⟩
    unfold EPt
    rw [← he, idx_getD ha.2.1]; exact ha.2.2
  · obtain ⟨p, hp, he, hgi⟩ := hg i h0
    obtain ⟨q, hq, he2, hgj⟩ := hg j (by omega)
    have e2 : m.idxOf p.2 = m.idxOf q.2 := by omega
    have e3 : p.2 = q.2 := by
      have h1 := idx_getD (h.a p hp).2.1
      rw [e2, idx_getD (h.a q hq).2.1] at h1
      exact h1.symm
    have e4 := map_inj h.n2 hp hq e3
    subst e4
    exact nodup_inj hl hi hj (he.symm.trans he2)
theorem prs_ex {l m : List Int} (hl : l.Nodup) (hm : m.Nodup) : ∃ P, Prs l m P ∧ P.length = matchN l m := by
  have hmat := runM_mat (E := EPt l m) (n := m.length) l.length
  have hlo := fun i => runM_lo (E := EPt l m) (n := m.length) l.length (i := i)
  generalize hs : runM (EPt l m) m.length l.length = s at hmat hlo
  have key : ∀ i ∈ (List.range l.length).filter (fun i => decide (0 ≤ s.nx i)), i < l.length ∧ (s.nx i).toNat < m.length ∧ s.mate (s.nx i).toNat = i ∧ EPt l m i (s.nx i).toNat = true := fun i hi => by
    have h := List.mem_filter.1 hi
    exact ⟨List.mem_range.1 h.1, hmat.nm i (of_decide_eq_true h.2)⟩
  refine ⟨((List.range l.length).filter (fun i => decide (0 ≤ s.nx i))).map fun i => (l.getD i 0, m.getD (s.nx i).toNat 0), ⟨fun p hp => ?_, ?_, ?_⟩, ?_⟩
  · obtain ⟨i, hi, rfl⟩ := List.mem_map.1 hp
    obtain ⟨h1, h2, _, h4⟩ := key i hi
    exact ⟨by rw [getD_get h1]; exact List.getElem_mem h1, by rw [getD_get h2]; exact List.getElem_mem h2, h4⟩
  · rw [List.map_map]
    refine List.pairwise_map.2 (List.Pairwise.imp_of_mem (fun {a b} ha hb hab e => ?_) (List.Pairwise.filter _ List.nodup_range))
    exact hab (nodup_inj hl (key a ha).1 (key b hb).1 e)
  · rw [List.map_map]
    refine List.pairwise_map.2 (List.Pairwise.imp_of_mem (fun {a b} ha hb hab e => ?_) (List.Pairwise.filter _ List.nodup_range))
    have h1 := nodup_inj hm (key a ha).2.1 (key b hb).2.1 e
    have h2 := (key a ha).2.2.1
    have h3 := (key b hb).2.2.1
    rw [h1, h3] at h2
    omega
  · rw [List.length_map, cnt_len]
    unfold matchN
    rw [numM_nx, hs]
theorem wo_mem {av : List Int} {t x : Int} : x ∈ wo av t ↔ x ∈ av ∧ x ≠ t := by unfold wo; rw [List.mem_filter, decide_eq_true_eq]
/-- With each step as many are left as can have next ones. -/
theorem next_count : ∀ (l av : List Int) (left : Int), l.Nodup → av.Nodup → (∀ x ∈ av, 1 ≤ x) → ((matchN l av : Nat) : Int) = left → (((nextsG l av left).filter fun t => decide (t ≠ 0)).length : Int) = left
  | [], av, left, _, _, _, h => by
    have := matchN_le [] av
    rw [← h]
    show ((0 : Nat) : Int) = _
    simp at this; omega
  | f :: r, av, left, hl, ha, hp, h => by
    have hl2 := List.nodup_cons.1 hl
    have hup : ∀ t ∈ av, partI f t = true → matchN r (wo av t) + 1 ≤ matchN (f :: r) av := fun t ht hft => by
      obtain ⟨Q, hQ, hQl⟩ := prs_ex hl2.2 (ha.filter _ : (wo av t).Nodup)
      have := prs_le (P := (f, t) :: Q) hl ⟨fun p hp2 => by
        rcases List.mem_cons.1 hp2 with rfl | q
        · exact ⟨List.mem_cons_self, ht, hft⟩
        · have h1 := hQ.a p q
          exact ⟨List.mem_cons_of_mem _ h1.1, (wo_mem.1 h1.2.1).1, h1.2.2⟩, by
        refine List.nodup_cons.2 ⟨fun hm => ?_, hQ.n1⟩
        obtain ⟨p, hp2, he⟩ := List.mem_map.1 hm
        have he : p.1 = f := he
        exact hl2.1 (he ▸ (hQ.a p hp2).1), by
        refine List.nodup_cons.2 ⟨fun hm => ?_, hQ.n2⟩
        obtain ⟨p, hp2, he⟩ := List.mem_map.1 hm
        exact (wo_mem.1 (hQ.a p hp2).2.1).2 he⟩
      rw [List.length_cons, hQl] at this
      exact this
    unfold nextsG
    cases hf : av.find? (okP r av f left) with
    | some t =>
      have hok := List.find?_some hf
      have htm := List.mem_of_find?_eq_some hf
      unfold okP at hok
      rw [Bool.and_eq_true, decide_eq_true_eq] at hok
      have ih := next_count r (wo av t) (left - 1) hl2.2 (ha.filter _) (fun x hx => hp x (wo_mem.1 hx).1) hok.2
      show (((t :: nextsG r (wo av t) (left - 1)).filter fun t => decide (t ≠ 0)).length : Int) = left
      rw [List.filter_cons, if_pos (by have := hp t htm; simp; omega), List.length_cons]
      omega
    | none =>
      rw [List.find?_eq_none] at hf
      have hle : matchN r av ≤ matchN (f :: r) av := by
        obtain ⟨Q, hQ, hQl⟩ := prs_ex hl2.2 ha
        rw [← hQl]
        exact prs_le hl ⟨fun p hp2 => ⟨List.mem_cons_of_mem _ (hQ.a p hp2).1, (hQ.a p hp2).2⟩, hQ.n1, hQ.n2⟩
      have hge : matchN (f :: r) av ≤ matchN r av := by
        obtain ⟨P, hP, hPl⟩ := prs_ex hl ha
        by_cases hex : ∃ p ∈ P, p.1 = f
        · exfalso
          obtain ⟨p0, hp0, he0⟩ := hex
          have ha0 := hP.a p0 hp0
          have h1 := prs_le (l := r) (m := wo av p0.2) (P := P.erase p0) hl2.2 ⟨fun p hp2 => by
            have hpn : P.Nodup := (List.pairwise_map.1 hP.n1).imp fun h e => h (by rw [e])
            have h2 := (List.Nodup.mem_erase_iff hpn).1 hp2
            have h3 := hP.a p h2.2
            refine ⟨?_, wo_mem.2 ⟨h3.2.1, fun e => h2.1 (map_inj hP.n2 h2.2 hp0 e)⟩, h3.2.2⟩
            rcases List.mem_cons.1 h3.1 with q | q
            · exact (h2.1 (map_inj hP.n1 h2.2 hp0 (q.trans he0.symm))).elim
            · exact q, hP.n1.sublist (List.erase_sublist.map _), hP.n2.sublist (List.erase_sublist.map _)⟩
          have h4 := hup p0.2 ha0.2.1 (he0 ▸ ha0.2.2)
          have h5 : (P.erase p0).length = P.length - 1 := List.length_erase_of_mem hp0
          have h6 := List.length_pos_of_mem hp0
          refine hf p0.2 ha0.2.1 ?_
          unfold okP
          rw [Bool.and_eq_true, decide_eq_true_eq]
          exact ⟨he0 ▸ ha0.2.2, by omega⟩
        · rw [← hPl]
          refine prs_le hl2.2 ⟨fun p hp2 => ⟨?_, (hP.a p hp2).2⟩, hP.n1, hP.n2⟩
          rcases List.mem_cons.1 (hP.a p hp2).1 with q | q
          · exact (hex ⟨p, hp2, q⟩).elim
          · exact q
      have ih := next_count r av left hl2.2 ha hp (by omega)
      show (((0 :: nextsG r av left).filter fun t => decide (t ≠ 0)).length : Int) = left
      rw [List.filter_cons, if_neg (by decide)]
      exact ih
/-- Next ones are different, and of those that there are. -/
theorem next_nd : ∀ (l av : List Int) (left : Int), (∀ x ∈ av, 1 ≤ x) → ((nextsG l av left).filter fun t => decide (t ≠ 0)).Nodup ∧ ∀ x ∈ (nextsG l av left).filter (fun t => decide (t ≠ 0)), x ∈ av
  | [], av, left, _ => ⟨List.nodup_nil, fun x hx => by simp [nextsG] at hx⟩
  | f :: r, av, left, hp => by
    unfold nextsG
    cases hf : av.find? (okP r av f left) with
    | some t =>
      have htm := List.mem_of_find?_eq_some hf
      have ih := next_nd r (wo av t) (left - 1) (fun x hx => hp x (wo_mem.1 hx).1)
      show ((t :: nextsG r (wo av t) (left - 1)).filter fun t => decide (t ≠ 0)).Nodup ∧ ∀ x ∈ (t :: nextsG r (wo av t) (left - 1)).filter (fun t => decide (t ≠ 0)), x ∈ av
      rw [List.filter_cons, if_pos (by have := hp t htm; simp; omega)]
      refine ⟨List.nodup_cons.2 ⟨fun h => (wo_mem.1 (ih.2 t h)).2 rfl, ih.1⟩, fun x hx => ?_⟩
      rcases List.mem_cons.1 hx with rfl | hx
      · exact htm
      · exact (wo_mem.1 (ih.2 x hx)).1
    | none =>
      have ih := next_nd r av left hp
      show ((0 :: nextsG r av left).filter fun t => decide (t ≠ 0)).Nodup ∧ ∀ x ∈ (0 :: nextsG r av left).filter (fun t => decide (t ≠ 0)), x ∈ av
      rw [List.filter_cons, if_neg (by decide)]
      exact ih
end Go.Proofs.YtfnalecnnmkgbaaDoor
/- The cover: each search in just one chain, in which each one is a part of the next one. -/
namespace Go.Proofs.YtfnalecnnmkgbaaDoor
open Go.Sl
/-- A chain from a place on. -/
def cf (L : List Int) (f j : Nat) : List Int := L.getD j 0 :: chainV L (nextsS L) f j
theorem cf_step {L : List Int} (hR : RisOk L) {f j : Nat} (hj : j < L.length) (h0 : 0 < (nextsS L).getD j 0) : ∃ p, j < p ∧ p < L.length ∧ L.getD p 0 = (nextsS L).getD j 0 ∧ cf L (f + 1) j = L.getD j 0 :: cf L f p := by
  obtain ⟨p, hp, hjp, hpl⟩ := next_at hR.up hR.sets hj h0
  refine ⟨p, hjp, hpl, whereI_get hp, ?_⟩
  unfold cf
  conv => lhs; unfold chainV
  rw [if_pos h0, hp, Int.toNat_natCast, whereI_get hp]
theorem cf_end {L : List Int} {f j : Nat} (h0 : ¬ 0 < (nextsS L).getD j 0) : cf L f j = [L.getD j 0] := by
  unfold cf
  cases f with
  | zero => rfl
  | succ f => unfold chainV; rw [if_neg h0]
theorem next_inj : ∀ (l av : List Int) (left : Int), (∀ x ∈ av, 1 ≤ x) → ∀ i j, i < j → j < l.length → (nextsG l av left).getD i 0 = (nextsG l av left).getD j 0 → (nextsG l av left).getD i 0 = 0
  | [], _, _, _, _, j, _, h, _ => by simp at h
  | f :: r, av, left, hp, i, 0, h, _, _ => by omega
  | f :: r, av, left, hp, i, j + 1, h, hj, he => by
    unfold nextsG at he ⊢
    cases hf : av.find? (okP r av f left) with
    | some t =>
      rw [hf] at he
      have he : (t :: nextsG r (wo av t) (left - 1)).getD i 0 = (t :: nextsG r (wo av t) (left - 1)).getD (j + 1) 0 := he
      show (t :: nextsG r (wo av t) (left - 1)).getD i 0 = 0
      rw [List.getD_cons_succ] at he
      cases i with
      | zero =>
        rw [List.getD_cons_zero] at he
        rcases nextsG_ok (l := r) (av := wo av t) (left := left - 1) (j := j) (by simpa using hj) with q | ⟨q, _⟩
        · have := hp t (List.mem_of_find?_eq_some hf); omega
        · exact ((wo_mem.1 q).2 he.symm).elim
      | succ i =>
        rw [List.getD_cons_succ] at he ⊢
        exact next_inj r (wo av t) (left - 1) (fun x hx => hp x (wo_mem.1 hx).1) i j (by omega) (by simpa using hj) he
    | none =>
      rw [hf] at he
      have he : (0 :: nextsG r av left).getD i 0 = (0 :: nextsG r av left).getD (j + 1) 0 := he
      show (0 :: nextsG r av left).getD i 0 = 0
      rw [List.getD_cons_succ] at he
      cases i with
      | zero => rfl
      | succ i =>
        rw [List.getD_cons_succ] at he ⊢
        exact next_inj r av left hp i j (by omega) (by simpa using hj) he
section
variable {L : List Int} (hR : RisOk L)
include hR
theorem nx_inj {i j : Nat} (hi : i < L.length) (hj : j < L.length) (h0 : 0 < (nextsS L).getD i 0) (e : (nextsS L).getD i 0 = (nextsS L).getD j 0) : i = j := by
  have hp : ∀ x ∈ L, 1 ≤ x := fun x hx => (hR.pos x hx).1
  rcases Nat.lt_trichotomy i j with q | q | q
  · have := next_inj L L (matchN L L : Nat) hp i j q hj e
    unfold nextsS at h0; omega
  · exact q
  · have := next_inj L L (matchN L L : Nat) hp j i q hi e.symm
    unfold nextsS at h0 e; omega
theorem nx_ok {j : Nat} (hj : j < L.length) (h0 : 0 < (nextsS L).getD j 0) : (nextsS L).getD j 0 ∈ L ∧ partI (L.getD j 0) ((nextsS L).getD j 0) = true := by
  have _ := hR
  rcases nextsG_ok (l := L) (av := L) (left := (matchN L L : Nat)) hj with q | ⟨q1, q2⟩
  · unfold nextsS at h0; omega
  · exact ⟨q1, by rw [getD_get hj]; exact q2⟩
theorem sets_getD {j : Nat} (hj : j < L.length) : 0 ≤ L.getD j 0 := by rw [getD_get hj]; have := hR.pos _ (List.getElem_mem hj); omega
/-- Each one in a chain is a part of all behind it. -/
theorem cf_pw : ∀ (f j : Nat), j < L.length → (cf L f j).Pairwise (fun a b => partI a b = true) ∧ ∀ y ∈ cf L f j, y ∈ L
  | 0, j, hj => ⟨by simp [cf, chainV], fun y hy => by
    have : y = L.getD j 0 := by simpa [cf, chainV] using hy
    rw [this, getD_get hj]; exact List.getElem_mem hj⟩
  | f + 1, j, hj => by
    by_cases h0 : 0 < (nextsS L).getD j 0
    · obtain ⟨p, hjp, hpl, hpe, hs⟩ := cf_step (f := f) hR hj h0
      have ih := cf_pw f p hpl
      have hn := nx_ok hR hj h0
      rw [hs]
      refine ⟨List.pairwise_cons.2 ⟨fun y hy => ?_, ih.1⟩, fun y hy => ?_⟩
      · have h1 : partI (L.getD j 0) (L.getD p 0) = true := by rw [hpe]; exact hn.2
        unfold cf at hy
        rcases List.mem_cons.1 hy with rfl | hy
        · exact h1
        · exact partI_trans (sets_getD hR hj) (sets_getD hR hpl) h1 ((List.pairwise_cons.1 ih.1).1 y hy)
      · rcases List.mem_cons.1 hy with rfl | hy
        · rw [getD_get hj]; exact List.getElem_mem hj
        · exact ih.2 y hy
    · rw [cf_end h0]
      exact ⟨by simp, fun y hy => by
        rw [List.mem_singleton.1 hy, getD_get hj]; exact List.getElem_mem hj⟩
theorem cf_mem_nx : ∀ (f j : Nat), j < L.length → ∀ x ∈ chainV L (nextsS L) f j, x ∈ nextsS L
  | 0, _, _, x, hx => by simp [chainV] at hx
  | f + 1, j, hj, x, hx => by
    unfold chainV at hx
    split at hx
    · rename_i h0
      obtain ⟨p, hp, hjp, hpl⟩ := next_at hR.up hR.sets hj h0
      rcases List.mem_cons.1 hx with rfl | hx
      · have hjn : j < (nextsS L).length := by rw [nextsS_len]; exact hj
        rw [getD_get hjn]; exact List.getElem_mem hjn
      · rw [hp, Int.toNat_natCast] at hx
        exact cf_mem_nx f p hpl x hx
    · simp at hx
/-- A chain that does not begin with a next one has it just if it has the one ahead of it. -/
theorem cf_both {p q : Nat} (hp : p < L.length) (hq : q < L.length) (he : (nextsS L).getD q 0 = L.getD p 0) : ∀ (f j : Nat), j < L.length → L.length ≤ f + 1 + j → j ≠ p → (L.getD p 0 ∈ cf L f j ↔ L.getD q 0 ∈ cf L f j) := by
  have hpos : 0 < L.getD p 0 := by rw [getD_get hp]; have := hR.pos _ (List.getElem_mem hp); omega
  have hnd := hR.up.nodup
  intro f
  induction f with
  | zero =>
    intro j hj hf hjp
    obtain ⟨p', h1, h2, h3, _⟩ := cf_step (f := 0) hR hq (by omega)
    have e : cf L 0 j = [L.getD j 0] := rfl
    rw [e, List.mem_singleton, List.mem_singleton]
    constructor
    · intro h; exact (hjp (nodup_inj hnd hp hj h).symm).elim
    · intro h
      have := nodup_inj hnd hq hj h
      omega
  | succ f ih =>
    intro j hj hf hjp
    by_cases h0 : 0 < (nextsS L).getD j 0
    · obtain ⟨p', hjp', hpl', hpe', hs⟩ := cf_step (f := f) hR hj h0
      rw [hs, List.mem_cons, List.mem_cons]
      have hnp : ¬ L.getD p 0 = L.getD j 0 := fun h => hjp (nodup_inj hnd hp hj h).symm
      by_cases e : p' = p
      · subst e
        have hqj : q = j := nx_inj hR hq hj (by omega) (by omega)
        subst hqj
        exact ⟨fun _ => .inl rfl, fun _ => .inr (by unfold cf; exact List.mem_cons_self)⟩
      · have hqj : ¬ L.getD q 0 = L.getD j 0 := fun h => by
          have := nodup_inj hnd hq hj h
          subst this
          exact e (nodup_inj hnd hpl' hp (by omega))
        have h := ih p' hpl' (by omega) e
        exact ⟨fun h1 => .inr (h.1 (h1.resolve_left hnp)), fun h1 => .inr (h.2 (h1.resolve_left hqj))⟩
    · rw [cf_end h0, List.mem_singleton, List.mem_singleton]
      constructor
      · intro h; exact (hjp (nodup_inj hnd hp hj h).symm).elim
      · intro h
        have := nodup_inj hnd hq hj h
        subst this; omega
/-- Each search is in just one chain. -/
theorem cf_one : ∀ (p : Nat), p < L.length → ∃ i, i < L.length ∧ startB L (nextsS L) i = true ∧ L.getD p 0 ∈ cf L L.length i ∧ ∀ j, j < L.length → startB L (nextsS L) j = true → L.getD p 0 ∈ cf L L.length j → j = i := by
  intro p
  induction p using Nat.strongRecOn with
  | _ p ih =>
    intro hp
    by_cases hm : L.getD p 0 ∈ nextsS L
    · obtain ⟨q, hq, hqe⟩ := List.getElem_of_mem hm
      rw [nextsS_len] at hq
      have hqn : q < (nextsS L).length := by rw [nextsS_len]; exact hq
      have he : (nextsS L).getD q 0 = L.getD p 0 := by rw [getD_get hqn]; exact hqe
      have hpos : 0 < L.getD p 0 := by rw [getD_get hp]; have := hR.pos _ (List.getElem_mem hp); omega
      obtain ⟨p', h1, h2, h3, _⟩ := cf_step (f := 0) hR hq (by omega)
      have hpp : p' = p := nodup_inj hR.up.nodup h2 hp (by omega)
      subst hpp
      obtain ⟨i, hi, hs, hin, huq⟩ := ih q h1 hq
      have hns : ∀ j, startB L (nextsS L) j = true → j ≠ p' := fun j hj e => by
        subst e
        unfold startB at hj
        rw [decide_eq_true hm] at hj; cases hj
      refine ⟨i, hi, hs, (cf_both hR hp hq he L.length i hi (by omega) (hns i hs)).2 hin, fun j hj hsj hjm => huq j hj hsj ((cf_both hR hp hq he L.length j hj (by omega) (hns j hsj)).1 hjm)⟩
    · refine ⟨p, hp, ?_, by unfold cf; exact List.mem_cons_self, fun j hj hsj hjm => ?_⟩
      · unfold startB; rw [decide_eq_false hm]; rfl
      · unfold cf at hjm
        rcases List.mem_cons.1 hjm with h | h
        · exact (nodup_inj hR.up.nodup hp hj h).symm
        · exact (hm (cf_mem_nx hR _ j hj _ h)).elim
theorem chainsR_cf : chainsR L = ((List.range L.length).filter (startB L (nextsS L))).map (cf L L.length) := by
  have _ := hR
  rfl
/-- The cover has each search once, and nothing else. -/
theorem cov_nodup : (chainsR L).flatten.Nodup ∧ ∀ x, x ∈ (chainsR L).flatten ↔ x ∈ L := by
  have hmem : ∀ c ∈ chainsR L, ∃ i, i < L.length ∧ startB L (nextsS L) i = true ∧ c = cf L L.length i := fun c hc => by
    rw [chainsR_cf hR] at hc
    obtain ⟨i, hi, rfl⟩ := List.mem_map.1 hc
    have h := List.mem_filter.1 hi
    exact ⟨i, List.mem_range.1 h.1, h.2, rfl⟩
  refine ⟨List.pairwise_flatten.2 ⟨fun c hc => ?_, ?_⟩, fun x => ?_⟩
  · obtain ⟨i, hi, _, rfl⟩ := hmem c hc
    refine (cf_pw hR L.length i hi).1.imp fun {a b} h e => ?_
    subst e; rw [partI_irr] at h; cases h
  · rw [chainsR_cf hR]
    refine List.pairwise_map.2 (List.Pairwise.imp_of_mem (fun {i j} hi hj hij => ?_) (List.Pairwise.filter _ List.nodup_range))
    have hi := List.mem_filter.1 hi
    have hj := List.mem_filter.1 hj
    have hil := List.mem_range.1 hi.1
    have hjl := List.mem_range.1 hj.1
    intro a ha b hb e
    subst e
    have haL := (cf_pw hR L.length i hil).2 a ha
    obtain ⟨p, hp, rfl⟩ := List.getElem_of_mem haL
    obtain ⟨k, _, _, _, huq⟩ := cf_one hR p hp
    rw [getD_get hp] at huq
    exact hij ((huq i hil hi.2 ha).trans (huq j hjl hj.2 hb).symm)
  · rw [List.mem_flatten]
    constructor
    · rintro ⟨c, hc, hx⟩
      obtain ⟨i, hi, _, rfl⟩ := hmem c hc
      exact (cf_pw hR L.length i hi).2 x hx
    · intro hx
      obtain ⟨p, hp, rfl⟩ := List.getElem_of_mem hx
      obtain ⟨i, hi, hs, hin, _⟩ := cf_one hR p hp
      rw [getD_get hp] at hin
      exact ⟨cf L L.length i, by rw [chainsR_cf hR]; exact List.mem_map_of_mem (List.mem_filter.2 ⟨List.mem_range.2 hi, hs⟩), hin⟩
/-- There are as many chains as are to be. -/
theorem cov_len : ((chainsR L).length : Int) = fewN L := by
  have hp : ∀ x ∈ L, 1 ≤ x := fun x hx => (hR.pos x hx).1
  have hnd := hR.up.nodup
  have h1 := next_count L L (matchN L L : Nat) hnd hnd hp rfl
  have h2 := next_nd L L (matchN L L : Nat) hp
  have hV : nextsG L L (matchN L L : Nat) = nextsS L := rfl
  rw [hV] at h1 h2
  have h3 := cnt_sub h2.1 h2.2
  have h4 : cnt L.length (fun i => decide (L.getD i 0 ∈ nextsS L)) = ((nextsS L).filter fun t => decide (t ≠ 0)).length := by
    refine Nat.le_antisymm ?_ (Nat.le_trans h3 (cnt_mono fun i hi hd => decide_eq_true (List.mem_filter.1 (of_decide_eq_true hd)).1))
    rw [← cnt_len]
    have h5 : (((List.range L.length).filter fun i => decide (L.getD i 0 ∈ nextsS L)).map fun i => L.getD i 0).Nodup := by
      refine List.pairwise_map.2 (List.Pairwise.imp_of_mem (fun {a b} ha hb hab e => ?_) (List.Pairwise.filter _ List.nodup_range))
      exact hab (nodup_inj hnd (List.mem_range.1 (List.mem_filter.1 ha).1) (List.mem_range.1 (List.mem_filter.1 hb).1) e)
    have h6 := h5.length_le_of_subset (l₂ := (nextsS L).filter fun t => decide (t ≠ 0)) (fun x hx => by
      obtain ⟨i, hi, rfl⟩ := List.mem_map.1 hx
      have hi := List.mem_filter.1 hi
      have hil := List.mem_range.1 hi.1
      have := hp _ (List.getElem_mem hil)
      exact List.mem_filter.2 ⟨of_decide_eq_true hi.2, decide_eq_true (by rw [getD_get hil]; omega)⟩)
    rwa [List.length_map] at h6
  have h7 := cnt_not (n := L.length) (p := fun i => decide (L.getD i 0 ∈ nextsS L))
  rw [chainsR_cf hR, List.length_map, cnt_len]
  have h8 : cnt L.length (startB L (nextsS L)) = cnt L.length (fun i => !decide (L.getD i 0 ∈ nextsS L)) := rfl
  rw [h8]
  unfold fewN; omega
end
end Go.Proofs.YtfnalecnnmkgbaaDoor
/- The order of a chain serves each search of it. -/
namespace Go.Proofs.YtfnalecnnmkgbaaDoor
open Go.Sl
/-- Columns that are those of a search. -/
structure Oc (m : Nat) (out : List Int) (was : Nat) : Prop where
  cols : Cols m out
  mem : ∀ c : Nat, (c : Int) ∈ out ↔ was.testBit c = true
theorem oc_len {m was : Nat} {out : List Int} (hm : m ≤ 10) (h : Oc m out was) : out.length = popN was ∧ orF out = was := by
  have h1 := orF_bit h.cols out.length (Nat.le_refl _)
  rw [List.take_of_length_le (Nat.le_refl _)] at h1
  have h2 := popN_orF hm h.cols out.length (Nat.le_refl _)
  rw [List.take_of_length_le (Nat.le_refl _)] at h2
  have e : orF out = was := Nat.eq_of_testBit_eq fun c => by
    rw [h1, Bool.eq_iff_iff, decide_eq_true_eq]; exact h.mem c
  exact ⟨by rw [← e, h2], e⟩
theorem bitsC_nodup (k : Nat) (p : Nat → Bool) : (bitsC k p).Nodup := by
  unfold bitsC
  exact List.pairwise_map.2 (List.Pairwise.imp (fun h e => h (by omega)) (List.Pairwise.filter p List.nodup_range))
theorem bitsC_mem {k : Nat} {p : Nat → Bool} {x : Int} (h : x ∈ bitsC k p) : ∃ c : Nat, x = (c : Int) ∧ c < k ∧ p c = true := by
  unfold bitsC at h
  obtain ⟨c, hc, rfl⟩ := List.mem_map.1 h
  have hc := List.mem_filter.1 hc
  exact ⟨c, rfl, List.mem_range.1 hc.1, hc.2⟩
theorem oc_step {m was s : Nat} {out : List Int} (h : Oc m out was) (hs : s < 2 ^ m) (hu : was &&& s = was) : Oc m (stepR m out (s : Int)) s := by
  unfold stepR
  rw [Int.toNat_natCast]
  refine ⟨⟨List.nodup_append.2 ⟨h.cols.nd, bitsC_nodup _ _, fun x hx y hy e => ?_⟩, fun x hx => ?_⟩, fun c => ?_⟩
  · obtain ⟨c, rfl, _, hc⟩ := bitsC_mem hy
    subst e
    unfold newC at hc
    rw [decide_eq_true hx] at hc
    simp at hc
  · rcases List.mem_append.1 hx with q | q
    · exact h.cols.rg x q
    · obtain ⟨c, rfl, hc, _⟩ := bitsC_mem q; omega
  · rw [new_mem hs h.mem, Nat.testBit_or]
    constructor
    · intro q
      rw [Bool.or_eq_true] at q
      rcases q with q | q
      · rw [← hu, Nat.testBit_and, Bool.and_eq_true] at q; exact q.2
      · exact q
    · intro q; rw [q]; simp
theorem stepR_pre (m : Nat) : ∀ (l out : List Int), out <+: l.foldl (stepR m) out
  | [], out => List.prefix_refl _
  | s :: l, out => by
    rw [List.foldl_cons]
    exact (List.prefix_append _ _).trans (stepR_pre m l (stepR m out s))
theorem pre_take {l o : List Int} (h : l <+: o) : o.take l.length = l := by
  obtain ⟨t, rfl⟩ := h
  simp
/-- What is made of searches each of which is a part of the next one. -/
theorem ord_fold {m : Nat} (hm : m ≤ 10) : ∀ (l : List Int) (out : List Int) (was : Nat), Oc m out was → (∀ x ∈ l, 0 ≤ x ∧ x < ((2 ^ m : Nat) : Int)) → l.Pairwise (fun a b => underI a b = true) → (∀ x ∈ l, underI (was : Int) x = true) →
    (∀ x ∈ l, srvd (l.foldl (stepR m) out) x = true) ∧ ∃ w, Oc m (l.foldl (stepR m) out) w ∧ (∀ x ∈ l.getLast?, (w : Int) = x)
  | [], out, was, h, _, _, _ => ⟨by simp, was, h, by simp⟩
  | x :: l, out, was, h, hr, hp, hw => by
    have hx := hr x List.mem_cons_self
    obtain ⟨s, rfl⟩ : ∃ s : Nat, x = (s : Int) := ⟨x.toNat, by omega⟩
    have hp2 := List.pairwise_cons.1 hp
    have hu : was &&& s = was := by
      have := hw (s : Int) List.mem_cons_self
      unfold underI at this
      simpa using this
    have h2 := oc_step h (by omega) hu
    have ih := ord_fold hm l (stepR m out (s : Int)) s h2 (fun y hy => hr y (List.mem_cons_of_mem _ hy)) hp2.2 hp2.1
    rw [List.foldl_cons]
    refine ⟨fun y hy => ?_, ?_⟩
    · rcases List.mem_cons.1 hy with rfl | hy
      · have hl := oc_len hm h2
        have hpre := pre_take (stepR_pre m l (stepR m out (s : Int)))
        unfold srvd
        rw [Int.toNat_natCast, ← hl.1, hpre, hl.2]
        exact decide_eq_true rfl
      · exact ih.1 y hy
    · obtain ⟨w, hw1, hw2⟩ := ih.2
      cases l with
      | nil => exact ⟨s, h2, by simp⟩
      | cons z l => exact ⟨w, hw1, by rw [List.getLast?_cons_cons]; exact hw2⟩
theorem under_full {m : Nat} {x : Int} (h : 0 ≤ x ∧ x < ((2 ^ m : Nat) : Int)) : underI x ((2 ^ m - 1 : Nat) : Int) = true := by
  obtain ⟨s, rfl⟩ : ∃ s : Nat, x = (s : Int) := ⟨x.toNat, by omega⟩
  unfold underI
  rw [Int.toNat_natCast, Int.toNat_natCast, Nat.and_two_pow_sub_one_eq_mod, Nat.mod_eq_of_lt (by omega)]
  exact decide_eq_true rfl
/-- The order of a chain: all columns, each once; it serves each search of the chain. -/
theorem order_ok {m : Nat} (hm : m ≤ 10) {ch : List Int} (hr : ∀ x ∈ ch, 0 ≤ x ∧ x < ((2 ^ m : Nat) : Int)) (hp : ch.Pairwise fun a b => partI a b = true) : Cols m (orderS m ch) ∧ (orderS m ch).length = m ∧ ∀ x ∈ ch, srvd (orderS m ch) x = true := by
  have h1 : 1 ≤ 2 ^ m := Nat.one_le_two_pow
  have h := ord_fold hm (ch ++ [((2 ^ m - 1 : Nat) : Int)]) [] 0 ⟨⟨List.nodup_nil, by simp⟩, fun c => by simp⟩ (fun x hx => by
    rcases List.mem_append.1 hx with q | q
    · exact hr x q
    · rw [List.mem_singleton.1 q]; omega) (List.pairwise_append.2 ⟨hp.imp fun h => by unfold partI at h; rw [Bool.and_eq_true] at h; exact h.1, by simp, fun a ha b hb => by rw [List.mem_singleton.1 hb]; exact under_full (hr a ha)⟩) (fun x _ => by unfold underI; simp)
  obtain ⟨h2, w, hw, hwl⟩ := h
  have hwe : (w : Int) = ((2 ^ m - 1 : Nat) : Int) := hwl _ (by simp)
  have hwe : w = 2 ^ m - 1 := by omega
  subst hwe
  have hc : ∀ c : Nat, (c : Int) ∈ orderS m ch ↔ c < m := fun c => by
    have := hw.mem c
    unfold orderS
    rw [this, Nat.testBit_two_pow_sub_one, decide_eq_true_eq]
  refine ⟨hw.cols, ?_, fun x hx => h2 x (List.mem_append_left _ hx)⟩
  have hcol : Cols m (orderS m ch) := hw.cols
  have h3 := hcol.nd.length_le_of_subset (l₂ := (List.range m).map fun (c : Nat) => (c : Int)) (fun x hx => by
    have hrg := hcol.rg x hx
    exact List.mem_map.2 ⟨x.toNat, List.mem_range.2 (by omega), by omega⟩)
  have h4 := (range_cols m).nd.length_le_of_subset (l₂ := orderS m ch) (fun x hx => by
    obtain ⟨c, hc2, rfl⟩ := List.mem_map.1 hx
    exact (hc c).2 (List.mem_range.1 hc2))
  rw [List.length_map, List.length_range] at h3 h4
  omega
end Go.Proofs.YtfnalecnnmkgbaaDoor
/- The cover, for searches of numbers. -/
namespace Go.Proofs.YtfnalecnnmkgbaaDoor
open Go.Sl
variable {S : Nat → Prop} {w0 : World} {η : Heap}
/-- How often each one has come. -/
def CntM (mp : List (Int × Int)) (xs : List Int) : Prop := ∀ x, mget x mp = if xs.count x = 0 then none else some (xs.count x : Int)
theorem CntM.nil : CntM [] [] := fun x => by simp [mget]
theorem CntM.get {mp : List (Int × Int)} {xs : List Int} (h : CntM mp xs) (x : Int) : (mget x mp).getD 0 = (xs.count x : Int) := by
 rw [h x]
 by_cases e : xs.count x = 0
 ·rw [if_pos e, e]; rfl
 ·rw [if_neg e]; rfl
theorem CntM.put {mp : List (Int × Int)} {xs : List Int} (h : CntM mp xs) (x : Int) : CntM (mput x ((xs.count x : Int) + 1) mp) (xs ++ [x]) := fun y => by
 rw [mget_mput, List.count_append]
 by_cases e : y = x
 ·subst e
  rw [if_pos rfl, if_neg (by simp)]
  simp
 ·rw [if_neg e, h y]
  have : List.count y [x] = 0 := List.count_eq_zero.2 (fun q => e (List.mem_singleton.1 q))
  rw [this, Nat.add_zero]
theorem look1 {F : Fence} {P : Program} {n : Nat} {Q : Exit → Act → World → Prop} {ds : List Deferred} {σ : Env} {ops : Array Oper} {rest : List Oper} {d : Nat} {ty : TypeId} {pos : String} {af : Array Edge} (hF : Sl.Open F) {t kt et : TypeId} [Und P t (.map kt et)] {sz bt : Nat} [Inf P et (.int .i64 0) sz bt] {α : Type} [DecidableEq α] {K : α → Value} [MKey P kt K] {m : List (α × Int)} {es : Array MapEntry} {clock b : Nat} (k : α)
  {x y : Operand} (hx : ev σ x = some (.map (some b))) (hy : ev σ y = some (K k)) (hb : [(b, .map es clock)] ∈ η) (hm : MObj K (Value.int .i64) m es clock) (hn : Nat.blt d n = true)
  (h : TL F P S w0 n ops Q rest ds ((d, .int .i64 ((mget k m).getD 0)) :: σ) η) : TL F P S w0 n ops Q (⟨some d, .lookup t x y false, ty, pos, af, none⟩ :: rest) ds σ η :=
 TL.lookup hF (Value.int .i64) k hx hy hb hm hn (by
  have e : (mget k m).elim (Value.int .i64 0) (Value.int .i64) = .int .i64 ((mget k m).getD 0) := by cases mget k m <;> rfl
  rw [e]; exact h)
theorem CntM.len {mp : List (Int × Int)} {xs l : List Int} (h : CntM mp xs) (hn : (mp.map (·.1)).Nodup) (hl : l.Nodup) (hx : ∀ x, x ∈ xs ↔ x ∈ l) : mp.length = l.length := by
 have hk : ∀ x, x ∈ mp.map (·.1) ↔ x ∈ l := fun x => by
  rw [← hx]
  constructor
  ·intro hm
   obtain ⟨p, hp, rfl⟩ := List.mem_map.1 hm
   have h1 := h p.1
   rw [mget_of_mem hn hp] at h1
   refine Decidable.byContradiction fun hno => ?_
   rw [if_pos (List.count_eq_zero.2 hno)] at h1; cases h1
  ·intro hm
   have h1 := h x
   rw [if_neg (fun e => List.count_eq_zero.1 e hm)] at h1
   exact List.mem_map.2 ⟨_, mget_mem h1, rfl⟩
 have h1 := hn.length_le_of_subset (l₂ := l) fun x hx2 => (hk x).1 hx2
 have h2 := hl.length_le_of_subset (l₂ := mp.map (·.1)) fun x hx2 => (hk x).2 hx2
 rw [List.length_map] at h1 h2
 omega
theorem flat_take {cs : List (List Int)} {i k : Nat} (hi : i < cs.length) (_hk : k ≤ cs[i].length) : ((cs.take i).flatten ++ cs[i].take k).Sublist cs.flatten := by
 have e : cs.flatten = (cs.take i).flatten ++ (cs[i] ++ (cs.drop (i + 1)).flatten) := by
  conv => lhs; rw [← List.take_append_drop i cs, List.drop_eq_getElem_cons hi]
  rw [List.flatten_append, List.flatten_cons]
 rw [e]
 exact List.Sublist.append (List.Sublist.refl _) ((List.take_sublist k _).trans (List.sublist_append_left _ _))
theorem chain_pos {L : List Int} {c : List Int} (h : c ∈ chainsR L) : 0 < c.length := by
 obtain ⟨i, _, rfl⟩ := List.mem_map.1 h
 simp
theorem lenM {F : Fence} {P : Program} {n : Nat} {Q : Exit → Act → World → Prop} {ds : List Deferred} {σ : Env} {ops : Array Oper} {rest : List Oper} {d : Nat} {ty : TypeId} {pos : String} {af : Array Edge} (hF : Sl.Open F) {t kt et : TypeId} [Und P t (.map kt et)] {α β : Type} {K : α → Value} {V : β → Value} {m : List (α × β)} {es : Array MapEntry} {clock b : Nat}
  {x : Operand} (hx : ev σ x = some (.map (some b))) (hb : [(b, .map es clock)] ∈ η) (hm : MObj K V m es clock) (hn : Nat.blt d n = true)
  (h : TL F P S w0 n ops Q rest ds ((d, .int .i64 (m.length : Int)) :: σ) η) : TL F P S w0 n ops Q (⟨some d, .call ⟨.builtin .len, #[x], #[t]⟩, ty, pos, af, none⟩ :: rest) ds σ η :=
 TL.pure hF (by intro c; simp) hn (fun a w hk hh => by
  have hs : es.size = m.length := by have := congrArg List.length hm.keys; simpa using this
  have hg := Go.Sl.run_getMap (P := P) (hh.inMem hb)
  have hu := Go.Sl.run_underlying (P := P) (w := w) (t := t) (d := .map kt et)
  simp only [execOp, resolve, invoke, builtin, Builtin.len_, List.map_toArray, List.map_cons, List.map_nil, hk.ev hx, Sem.run_bind, Sem.run_pure, Result.andThen_ok]
  simp [hu, hg, goInt, hs]) h
/-- Lists of lists, with their room. -/
def ResLC (S : Nat → Prop) (w0 : World) (r : List (List Int) × Int) (η : Heap) (v : Value) (η' : Heap) : Prop := ∃ a cap ps segs, v = .tuple #[.slice a ps.length cap, .int .i64 r.2] ∧ tx ps = r.1 ∧ LL S w0 segs a ps ∧ η' = segs ++ η ∧ ∀ p ∈ ps, p.2.1.length ≤ p.2.2
theorem ResLC.lit {r : List (List Int) × Int} {η' : Heap} {v : Value} {L : List (List Int)} {k : Int} (h : ResLC S w0 r η v η') (e : r = (L, k)) : ∃ a cap ps segs, v = .tuple #[.slice a ps.length cap, .int .i64 k] ∧ tx ps = L ∧ LL S w0 segs a ps ∧ η' = segs ++ η ∧ ∀ p ∈ ps, p.2.1.length ≤ p.2.2 := by subst e; exact h
set_option maxHeartbeats 2000000 in
theorem Orders_cap {a : Option Addr} {l : List Int} {c : Nat} (cols : Int) (hx : Row S w0 [] a (ints l)) (hl : l.length < 2 ^ 63) (hc : l.length ≤ c) (hg : Kinds S w0) :
  Rt Tryd.prog 16 [.int .i64 cols, .slice a l.length c].toArray S w0 η (ResLC S w0 (ordersS cols l) η) := by
 have hF := open_wide
 refine Rt.ofL (fn := Tryd.f16) Tryd.func16 rfl rfl ?_
 refine T.seq ?_
 refine T.region ?_
 refine TL.assign hF rfl rfl ?_
 refine TL.alloc hF rfl (fun b5 => ?_)
 refine TL.nil ?_
 refine TQ.then_n ?_
 refine T.seq ?_
 refine T.region ?_
 refine TL.makeFunc hF rfl rfl rfl ?_
 refine TL.defer hF rfl rfl ?_
 refine TL.nil ?_
 refine TQ.then_n ?_
 refine T.seq ?_
 refine T.region ?_
 refine TL.assign hF rfl rfl ?_
 refine TL.nil ?_
 refine TQ.then_n ?_
 refine T.seq ?_
 refine T.seq ?_
 refine T.region ?_
 refine TL.move hF rfl rfl ?_
 refine TL.move hF rfl rfl ?_
 refine TL.callE hF (opened_risen cols hx hl hc) rfl rfl ?_ ?_
 ·rintro _ _ ⟨L, oa, oc, lg, sg, ⟨hLe, hR, hk, rfl, ho⟩, rfl⟩
  have hL24 := hR.le
  refine TL.freeze [lg, sg] rfl (fun S1 w1 hz1 => ?_)
  have hrr : Row S1 w1 [] oa (ints L) := (ho.row (η := [lg, sg]) List.mem_cons_self).frz hz1
  have hg1 := hg.old hz1
  have hcap := osl_cap ho
  refine TL.call hF (chains_ll hg1 hrr hR (by omega) hcap) rfl rfl ?_
  rintro _ _ ⟨qa, qc, qs, segs, rfl, hq, htq, rfl⟩
  refine TL.freeze segs rfl (fun S2 w2 hz2 => ?_)
  have hq1 := hq.frz hz2
  have hok := chains_ok hR
  rw [← htq] at hok
  have hcols := checkE_ok hk
  obtain ⟨m, rfl⟩ : ∃ m : Nat, cols = (m : Int) := ⟨cols.toNat, by omega⟩
  have hm : m ≤ 10 := by omega
  have hql : qs.length ≤ 24 := by rw [← tx_len, htq]; exact Nat.le_trans (chainN_len _ _ _) hL24
  have hrg : ∀ x ∈ L, 0 ≤ x ∧ x < ((2 ^ m : Nat) : Int) := fun x hx2 => by
   have := hcols.2.2.1 x (mem_rising.1 (hLe ▸ hx2))
   rw [Int.toNat_natCast] at this
   omega
  refine TL.len hF rfl rfl ?_
  refine TL.move hF rfl rfl ?_
  refine TL.nil ?_
  refine TQ.then_n ?_
  refine T.block ?_
  refine T.heap (η' := [(b5, Obj.cells #[.int .i64 0] 24 (0, 0))] :: η) (by simp [Value.cells]) ?_
  refine T.hnil ?_
  refine T.loop (ι := Nat × Option Addr × Nat × List (HL × Seg) × Seg) (fun z => match z with | (i, oa, oc, outs, og) => i ≤ qs.length ∧ outs.length = i ∧ OL 22 (.slice oa outs.length oc) outs og ∧ outs.map (fun t => t.1.2.1) = ((tx qs).take i).map (orderS m)) (fun z => match z with | (i, oa, oc, outs, og) => [(0, .int .i64 (m : Int)), (4, .slice none 0 0), (5, ptr b5), (13, .slice qa qs.length qc), (14, .int .i64 (qs.length : Int)), (6, .slice oa outs.length oc), (15, .int .i64 (i : Int))]) (fun z => match z with | (i, oa, oc, outs, og) => og :: (outs.reverse.map (·.2) ++ ([(b5, Obj.cells #[.int .i64 0] 24 (0, 0))] :: η))) (fun z => qs.length - z.1) (0, none, 0, [], []) ⟨Nat.zero_le _, rfl, ⟨OSl.nil _ _, fun t ht => by simp at ht⟩, rfl⟩ ⟨rfl, rfl, rfl, rfl, rfl, rfl, rfl, trivial⟩ rfl ?_
  clear ho hcap hrr oa oc
  rintro ⟨i, oa, oc, outs, og⟩ ⟨hi, hoi, hol, hto⟩
  refine T.seq ?_
  refine T.region ?_
  refine TL.bin hF rfl rfl rfl rfl ?_
  refine TL.nil ?_
  refine TQ.then_n ?_
  refine T.seq ?_
  first | refine T.cond_d rfl (fun ht16 => ?_) (fun ht16 => ?_) | refine T.cond _ rfl (fun ht16 => ?_) (fun ht16 => ?_)
  ·refine T.skip ?_
   refine TQ.then_n ?_
   refine T.seq ?_
   refine T.block ?_
   refine T.seq ?_
   refine T.region ?_
   have hiq : i < qs.length := by have h : (i : Int) < (qs.length : Int) := ht16; omega
   have hci := hok _ (List.mem_map_of_mem (List.getElem_mem hiq))
   refine TL.indexAddr hF rfl rfl (hq1.ad (i := i) hiq) (by omega) (by omega) rfl ?_
   refine TL.load hF rfl (hq1.ro.at (i := i) hiq) rfl ?_
   refine TL.assign hF rfl rfl ?_
   refine TL.nil ?_
   refine TQ.then_n ?_
   refine T.region ?_
   refine TL.move hF rfl rfl ?_
   refine TL.move hF rfl rfl ?_
   refine TL.move hF rfl rfl ?_
   refine TL.call hF (order_fn (hq1.it hiq) (fun x hx2 => hrg x (hci.1 x hx2)) hci.2 hm) rfl rfl ?_
   rintro _ _ ⟨ca, cc, cg, rfl, hcg, rfl⟩
   refine TL.buildSlice hF rfl (cs := #[.slice ca (orderS m qs[i].2.1).length cc]) (e := 22) (fun w => by kernel_rfl) rfl (fun b23 => ?_)
   refine TL.append hF 2 rfl rfl rfl hol.o (row_own (cs := [.slice ca (orderS m qs[i].2.1).length cc]) (e := 22) (by simp)).src rfl rfl (by simp [Value.oneCell']) (by omega) (by omega) rfl (fun pa pc pg ph => ?_)
   refine TL.assign hF rfl rfl ?_
   refine TL.nil ?_
   refine TQ.block_n ?_
   refine TQ.then_n ?_
   refine T.region ?_
   refine TL.add hF rfl rfl (by omega) (by omega) rfl ?_
   refine TL.move hF rfl rfl ?_
   refine TL.nil ?_
   have e4 : outs.length + 1 = (outs ++ [(((ca, orderS m qs[i].2.1, cc) : HL), cg)]).length := by simp
   refine TQ.pick [2, 1] [_, _, _] rfl rfl rfl ?_
   refine TQ.round (i + 1, pa, pc, outs ++ [((ca, orderS m qs[i].2.1, cc), cg)], pg) ⟨by omega, by simp [hoi], ⟨?_, ?_⟩, ?_⟩ (by dsimp only; omega) ⟨rfl, rfl, rfl, rfl, rfl, congrArg (fun n : Nat => some (Value.slice pa n pc)) e4, rfl, trivial⟩ (by simp [pickL])
   ·rw [← e4, List.map_append]; exact ph
   ·intro t ht
    rcases List.mem_append.1 ht with h | h
    ·exact hol.i t h
    ·rw [List.mem_singleton.1 h]; exact hcg
   ·rw [List.map_append, hto, tx_take hiq, List.map_append]; rfl
  ·refine T.exit ?_
   refine TQ.then_x ?_
   refine TQ.then_x ?_
   refine TQ.block_x ?_
   refine TQ.then_n ?_
   refine T.seq ?_
   refine T.region ?_
   refine TL.move hF rfl rfl ?_
   refine TL.assign hF rfl rfl ?_
   refine TL.hperm ([(b5, Obj.cells #[.int .i64 0] 24 (0, 0))] :: ((og :: outs.reverse.map (·.2)) ++ η)) ((List.perm_middle (l₁ := og :: outs.reverse.map (·.2))).symm) ?_
   refine TL.storeI hF 0 rfl rfl rfl rfl (by decide) ?_
   refine TL.nil ?_
   refine TQ.then_n ?_
   refine T.ret ?_
   have hin : i = qs.length := by have h : ¬ (i : Int) < (qs.length : Int) := ht16; omega
   refine TQ.thaw hz2 ?_
   refine TQ.thaw hz1 ?_
   refine TQ.heap (η' := (lg :: sg :: segs) ++ [(b5, Obj.cells #[.int .i64 0] 24 (0, 0))] :: ((og :: outs.reverse.map (·.2)) ++ η)) (by simp) ?_
   refine TQ.hperm ([(b5, Obj.cells #[.int .i64 0] 24 (0, 0))] :: ((lg :: sg :: segs) ++ ((og :: outs.reverse.map (·.2)) ++ η))) ((List.perm_middle (l₁ := lg :: sg :: segs)).symm) ?_
   refine TQ.retL [4] _ stop42 (stopped_nil _) rfl rfl rfl (own_mem (e := ERR) (fz := (0, 0)) (cs := #[.int .i64 0]) List.mem_cons_self rfl) ?_
   have e : ordersS (m : Int) l = ((chainsR L).map (orderS m), 0) := by unfold ordersS; rw [if_pos hk, Int.toNat_natCast, ← hLe]
   rw [e]
   refine ⟨oa, oc, outs.map (·.1), [(b5, Obj.cells #[.int .i64 0] 24 (0, 0))] :: ((lg :: sg :: segs) ++ (og :: outs.reverse.map (·.2))), by rw [List.length_map]; rfl, ?_, hol.ll (by simp) (fun t ht => by simp only [List.mem_append, List.mem_cons, List.mem_map, List.mem_reverse]; right; right; right; exact ⟨t, ht, rfl⟩), by simp [List.append_assoc], fun p hp => by
    obtain ⟨t, ht, rfl⟩ := List.mem_map.1 hp
    exact osl_cap (show OSl 3 1 (.slice t.1.1 t.1.2.1.length t.1.2.2) _ _ _ from hol.i t ht)⟩
   unfold tx
   rw [List.map_map]
   have h1 : (outs.map fun t => t.1.2.1) = (chainsR L).map (orderS m) := by rw [hto, hin, List.take_of_length_le (by rw [tx_len]; omega), htq]
   exact h1
 ·rintro _ _ ⟨he, rfl, rfl⟩
  refine TQ.then_p ?_
  refine TQ.then_p ?_
  refine TQ.panL [4] [.slice none 0 0] stop42 (stopped_err _) rfl rfl rfl (At.own' (i := 0) rfl rfl) ?_
  have e : ordersS cols l = ([], checkE cols l) := by unfold ordersS; rw [if_neg he]
  rw [e]; exact ⟨none, 0, [], [_], rfl, rfl, LL.none, rfl, by simp⟩
set_option maxHeartbeats 2000000 in
theorem ChainCovers_fn {n : Nat} {a : Option Addr} {xs : List Nat} {c : Nat} (hg : Kinds S w0) (hn : n < 256) (hx : Row S w0 [] a (n16 xs)) (hl : xs.length < 2 ^ 63) (hbx : ∀ n ∈ xs, n < 65536) :
  Rt Tryd.prog 5 [.int .u8 (n : Int), .slice a xs.length c].toArray S w0 [] (fun v _ => v = .bool true) := by
 have hF := open_wide
 refine Rt.of (fn := Tryd.f5) Tryd.func5 rfl rfl ?_
 refine T.seq ?_
 refine T.region ?_
 refine TL.assign hF rfl rfl ?_
 refine TL.nil ?_
 refine TQ.then_n ?_
 refine T.seq ?_
 refine T.seq ?_
 refine T.region ?_
 refine TL.move hF rfl rfl ?_
 have hb := Back.refl S w0
 refine TL.len hF rfl rfl ?_
 refine TL.bin hF rfl rfl rfl rfl ?_
 refine TL.nil ?_
 refine TQ.then_n ?_
 refine T.cond_d rfl (fun ht24 => ?_) (fun ht24 => ?_)
 ·refine T.seq ?_
  refine T.region ?_
  refine TL.call hF (awake_fn hg) rfl rfl ?_
  rintro _ _ rfl
  refine TL.assign hF rfl rfl ?_
  refine TL.nil ?_
  refine TQ.then_n ?_
  refine T.ret ?_
  refine TQ.then_r ?_
  exact TQ.retsF [4] _ hb rfl rfl rfl (fun _ => rfl)
 ·refine T.skip ?_
  refine TQ.then_n ?_
  refine T.seq ?_
  refine T.region ?_
  refine TL.move hF rfl rfl ?_
  refine TL.callV hF (columns_law hn) rfl rfl ?_
  refine TL.assign hF rfl rfl ?_
  refine TL.nil ?_
  refine TQ.then_n ?_
  refine T.seq ?_
  refine T.region ?_
  refine TL.move hF rfl rfl ?_
  refine TL.move hF rfl rfl ?_
  obtain ⟨hc1, hc2⟩ := colN_range n
  have hval := searches_ok hc1 xs
  have hle60 : xs.length ≤ 60 := by omega
  refine TL.call hF (searches_law (m := colN n) hc1 hc2 hx (by omega) hbx) rfl rfl ?_
  rintro _ _ ⟨sa, sc, sg, rfl, hso, rfl⟩
  refine TL.freeze ([sg]) rfl (fun S1 w1 hz1 => ?_)
  replace hb := hb.frz hz1
  replace hg := hg.old hz1
  replace hx := hx.old hz1
  have hsr : Row S1 w1 [] sa (ints (searchesS (colN n) xs)) := (hso.row (η := [sg]) List.mem_cons_self).frz hz1
  have hsc := osl_cap hso
  clear hso
  generalize searchesS (colN n) xs = l at hval hsc hsr ⊢
  have hll := hval.le
  have hp2 := two_pow hc2
  refine TL.assign hF rfl rfl ?_
  refine TL.nil ?_
  refine TQ.then_n ?_
  refine T.seq ?_
  refine T.region ?_
  refine TL.move hF rfl rfl ?_
  refine TL.move hF rfl rfl ?_
  refine TL.call hF (Fewest_prog ((colN n : Nat) : Int) hsr (by omega) hsc hg) rfl rfl ?_
  rintro _ _ ⟨rfl, segs, rfl⟩
  rw [hval.few hc1 hc2]
  refine TL.hsub _ (List.sublist_append_right _ _) ?_
  refine TL.move hF rfl rfl ?_
  refine TL.extract hF rfl rfl rfl ?_
  refine TL.extract hF rfl rfl rfl ?_
  refine TL.assign hF rfl rfl ?_
  refine TL.assign hF rfl rfl ?_
  refine TL.nil ?_
  refine TQ.then_n ?_
  refine T.seq ?_
  refine T.region ?_
  refine TL.move hF rfl rfl ?_
  refine TL.move hF rfl rfl ?_
  refine TL.call hF (Chains_prog ((colN n : Nat) : Int) hsr (by omega) hsc hg) rfl rfl ?_
  rintro _ _ h
  obtain ⟨qa, qc, qs, segs, rfl, tq, hq, rfl⟩ := h.lit (hval.chains hc1 hc2)
  refine TL.freeze (segs) rfl (fun S2 w2 hz2 => ?_)
  replace hb := hb.frz hz2
  replace hg := hg.old hz2
  replace hx := hx.old hz2
  replace hsr := hsr.old hz2
  replace hq := hq.frz hz2
  refine TL.move hF rfl rfl ?_
  refine TL.extract hF rfl rfl rfl ?_
  refine TL.extract hF rfl rfl rfl ?_
  refine TL.assign hF rfl rfl ?_
  refine TL.assign hF rfl rfl ?_
  refine TL.nil ?_
  refine TQ.then_n ?_
  refine T.seq ?_
  refine T.region ?_
  refine TL.move hF rfl rfl ?_
  refine TL.move hF rfl rfl ?_
  refine TL.call hF (Orders_cap ((colN n : Nat) : Int) hsr (by omega) hsc hg) rfl rfl ?_
  rintro _ _ h
  obtain ⟨oa, oc, os, segs, rfl, to, ho, rfl, hocap⟩ := h.lit (hval.orders hc1 hc2)
  refine TL.freeze (segs) rfl (fun S3 w3 hz3 => ?_)
  replace hb := hb.frz hz3
  replace hg := hg.old hz3
  replace hx := hx.old hz3
  replace hsr := hsr.old hz3
  replace hq := hq.old hz3
  replace ho := ho.frz hz3
  have hR := hval.risok hc1 hc2
  have hcl := cov_len hR
  rw [fewN_rising (hval.check hc1 hc2)] at hcl
  obtain ⟨hfn, hfm⟩ := cov_nodup hR
  have hok := chains_ok hR
  have hpw : ∀ c ∈ chainsR (risingS l), c.Pairwise fun a b => partI a b = true := fun c hc => by
   rw [chainsR_cf hR] at hc
   obtain ⟨i, hi, rfl⟩ := List.mem_map.1 hc
   exact (cf_pw hR _ i (List.mem_range.1 (List.mem_filter.1 hi).1)).1
  have hcp : ∀ c ∈ chainsR (risingS l), 0 < c.length := fun c hc => chain_pos hc
  have hmr : ∀ c ∈ chainsR (risingS l), ∀ x ∈ c, 1 ≤ x ∧ x < ((2 ^ colN n : Nat) : Int) := fun c hc x hx2 => hval.rg x (mem_rising.1 ((hok c hc).1 x hx2))
  have hfm2 : ∀ x, x ∈ (chainsR (risingS l)).flatten ↔ x ∈ l := fun x => by rw [hfm, mem_rising]
  have hcl25 : ∀ c ∈ chainsR (risingS l), c.length ≤ 25 := fun c hc => (hok c hc).2
  clear hok hfm hR
  generalize chainsR (risingS l) = cs at tq to hcl hfn hpw hcp hmr hfm2 hcl25
  have hql : qs.length = cs.length := by rw [← tx_len, tq]
  have hosl : os.length = cs.length := by rw [← tx_len, to, List.length_map]
  have hcs24 : cs.length ≤ 24 := by have := (fewN_range l).2; omega
  refine TL.move hF rfl rfl ?_
  refine TL.extract hF rfl rfl rfl ?_
  refine TL.extract hF rfl rfl rfl ?_
  refine TL.assign hF rfl rfl ?_
  refine TL.assign hF rfl rfl ?_
  refine TL.nil ?_
  refine TQ.then_n ?_
  refine T.seq ?_
  refine T.seq ?_
  refine T.region ?_
  refine TL.move hF rfl rfl ?_
  refine TL.bin hF rfl rfl rfl rfl ?_
  refine TL.move hF rfl rfl ?_
  refine TL.on rfl rfl rfl rfl ?_
  refine TL.move hF rfl rfl ?_
  refine TL.on rfl rfl rfl rfl ?_
  refine TL.move hF rfl rfl ?_
  refine TL.on rfl rfl rfl rfl ?_
  refine TL.bin hF rfl rfl rfl rfl ?_
  refine TL.pickF hF rfl rfl rfl rfl ?_
  refine TL.move hF rfl rfl ?_
  refine TL.on rfl rfl rfl rfl ?_
  refine TL.move hF rfl rfl ?_
  refine TL.on rfl rfl rfl rfl ?_
  refine TL.move hF rfl rfl ?_
  refine TL.on rfl rfl rfl rfl ?_
  refine TL.bin hF rfl rfl rfl rfl ?_
  refine TL.pickF hF rfl rfl rfl rfl ?_
  refine TL.move hF rfl rfl ?_
  refine TL.on rfl rfl rfl rfl ?_
  refine TL.move hF rfl rfl ?_
  refine TL.on rfl rfl rfl rfl ?_
  refine TL.len hF rfl rfl ?_
  refine TL.on rfl rfl rfl rfl ?_
  refine TL.move hF rfl rfl ?_
  refine TL.on rfl rfl rfl rfl ?_
  refine TL.bin hF rfl rfl rfl rfl ?_
  refine TL.pickF hF rfl rfl rfl rfl ?_
  refine TL.move hF rfl rfl ?_
  refine TL.on rfl rfl rfl (decide_eq_false (fun h => h (by omega))) ?_
  refine TL.move hF rfl rfl ?_
  refine TL.on rfl rfl rfl (decide_eq_false (fun h => h (by omega))) ?_
  refine TL.len hF rfl rfl ?_
  refine TL.on rfl rfl rfl (decide_eq_false (fun h => h (by omega))) ?_
  refine TL.move hF rfl rfl ?_
  refine TL.on rfl rfl rfl (decide_eq_false (fun h => h (by omega))) ?_
  refine TL.bin hF rfl rfl rfl rfl ?_
  refine TL.pickF hF rfl (decide_eq_false (fun h => h (by omega))) rfl rfl ?_
  refine TL.nil ?_
  refine TQ.then_n ?_
  refine T.cond_f rfl (decide_eq_false (fun h => h (by omega))) ?_
  refine T.skip ?_
  refine TQ.then_n ?_
  refine T.seq ?_
  refine T.region ?_
  refine TL.makeMap hF rfl (fun mb => ?_)
  refine TL.assign hF rfl rfl ?_
  refine TL.nil ?_
  refine TQ.then_n ?_
  refine T.seq ?_
  refine T.seq ?_
  refine T.region ?_
  refine TL.move hF rfl rfl ?_
  refine TL.len hF rfl rfl ?_
  refine TL.move hF rfl rfl ?_
  refine TL.nil ?_
  refine TQ.then_n ?_
  refine T.block ?_
  refine T.loop (ι := Nat × List (Int × Int) × Array MapEntry × Nat) (fun z => match z with | (i, mp, es, ck) => i ≤ qs.length ∧ MObj (Value.int .i64) (Value.int .i64) mp es ck ∧ CntM mp (cs.take i).flatten) (fun z => match z with | (i, mp, es, ck) => [(4, .bool false), (5, .int .i64 ((colN n : Nat) : Int)), (6, .slice sa l.length sc), (11, .slice oa os.length oc), (13, .map (some mb)), (74, .slice qa qs.length qc), (75, .int .i64 (qs.length : Int)), (76, .int .i64 (i : Int))]) (fun z => match z with | (i, mp, es, ck) => [[(mb, Obj.map es ck)]]) (fun z => qs.length - z.1) (0, [], #[], 0) ⟨Nat.zero_le _, MObj.nil _ _, CntM.nil⟩ ⟨rfl, rfl, rfl, rfl, rfl, rfl, rfl, rfl, trivial⟩ rfl ?_
  rintro ⟨i, mp, es, ck⟩ ⟨hi, hmo, hcm⟩
  refine T.seq ?_
  refine T.region ?_
  refine TL.bin hF rfl rfl rfl rfl ?_
  refine TL.nil ?_
  refine TQ.then_n ?_
  refine T.seq ?_
  first | refine T.cond_d rfl (fun ht77 => ?_) (fun ht77 => ?_) | refine T.cond _ rfl (fun ht77 => ?_) (fun ht77 => ?_)
  ·refine T.skip ?_
   refine TQ.then_n ?_
   refine T.seq ?_
   refine T.block ?_
   refine T.seq ?_
   refine T.region ?_
   refine TL.move hF rfl rfl ?_
   have hiq : i < qs.length := by have h : (i : Int) < (qs.length : Int) := ht77; omega
   have hic : i < cs.length := by omega
   have hio : i < os.length := by omega
   have hqi : qs[i].2.1 = cs[i] := by
    have h := tx_get hiq
    simp only [tq] at h; exact h.symm
   have hoi : os[i].2.1 = orderS (colN n) cs[i] := by
    have h := tx_get hio
    simp only [to, List.getElem_map] at h; exact h.symm
   have hcm2 := List.getElem_mem hic
   obtain ⟨hoc1, hoc2, hoc3⟩ := order_ok hc2 (fun x hx2 => by have := hmr _ hcm2 x hx2; omega) (hpw _ hcm2)
   rw [← hoi] at hoc1 hoc2 hoc3
   have hc25 := hcl25 _ hcm2
   have hc0 := hcp _ hcm2
   have hpi := hpw _ hcm2
   have hmi := hmr _ hcm2
   have hsub := fun k (hk : k ≤ cs[i].length) => flat_take hic hk
   rw [← hqi] at hoc3 hc25 hc0 hpi hmi hsub
   refine TL.indexAddr hF rfl rfl (hq.ad (i := i) hiq) (by omega) (by omega) rfl ?_
   refine TL.load hF rfl ((hq.at (i := i) hiq).up (by simp)) rfl ?_
   refine TL.assign hF rfl rfl ?_
   refine TL.assign hF rfl rfl ?_
   refine TL.nil ?_
   refine TQ.then_n ?_
   refine T.seq ?_
   refine T.seq ?_
   refine T.region ?_
   refine TL.move hF rfl rfl ?_
   refine TL.len hF rfl rfl ?_
   refine TL.move hF rfl rfl ?_
   refine TL.nil ?_
   refine TQ.then_n ?_
   refine T.block ?_
   refine T.loop (ι := Nat × List (Int × Int) × Array MapEntry × Nat) (fun z => match z with | (k, mp, es, ck) => k ≤ qs[i].2.1.length ∧ MObj (Value.int .i64) (Value.int .i64) mp es ck ∧ CntM mp ((cs.take i).flatten ++ qs[i].2.1.take k)) (fun z => match z with | (k, mp, es, ck) => [(4, .bool false), (5, .int .i64 ((colN n : Nat) : Int)), (6, .slice sa l.length sc), (11, .slice oa os.length oc), (13, .map (some mb)), (14, .int .i64 (i : Int)), (15, hc qs[i]), (74, .slice qa qs.length qc), (75, .int .i64 (qs.length : Int)), (76, .int .i64 (i : Int)), (81, hc qs[i]), (82, .int .i64 (qs[i].2.1.length : Int)), (83, .int .i64 (k : Int))]) (fun z => match z with | (k, mp, es, ck) => [[(mb, Obj.map es ck)]]) (fun z => qs[i].2.1.length - z.1) (0, mp, es, ck) ⟨Nat.zero_le _, hmo, by simpa using hcm⟩ ⟨rfl, rfl, rfl, rfl, rfl, rfl, rfl, rfl, rfl, rfl, rfl, rfl, rfl, trivial⟩ rfl ?_
   clear hmo hcm
   rintro ⟨k, mp, es, ck⟩ ⟨hk, hmo, hcm⟩
   refine T.seq ?_
   refine T.region ?_
   refine TL.bin hF rfl rfl rfl rfl ?_
   refine TL.nil ?_
   refine TQ.then_n ?_
   refine T.seq ?_
   first | refine T.cond_d rfl (fun ht84 => ?_) (fun ht84 => ?_) | refine T.cond _ rfl (fun ht84 => ?_) (fun ht84 => ?_)
   ·refine T.skip ?_
    refine TQ.then_n ?_
    refine T.seq ?_
    refine T.block ?_
    refine T.seq ?_
    refine T.region ?_
    refine TL.move hF rfl rfl ?_
    have hkl : k < qs[i].2.1.length := by have h : (k : Int) < (qs[i].2.1.length : Int) := ht84; omega
    have hxm := List.getElem_mem hkl
    have hxr := hmi _ hxm
    have hcnt : ((cs.take i).flatten ++ qs[i].2.1.take k).count qs[i].2.1[k] ≤ 1 := List.nodup_iff_count.1 (hfn.sublist (hsub k hk)) _
    have hit := hq.it hiq
    refine TL.indexAddr hF rfl rfl (hit.adi (i := k) (by simp; omega)) (by omega) (by omega) rfl ?_
    refine TL.load hF rfl (hit.ro.int (i := k) hkl) rfl ?_
    refine TL.assign hF rfl rfl ?_
    refine TL.assign hF rfl rfl ?_
    refine TL.nil ?_
    refine TQ.then_n ?_
    refine T.seq ?_
    refine T.region ?_
    refine TL.move hF rfl rfl ?_
    refine TL.move hF rfl rfl ?_
    refine look1 hF (K := Value.int .i64) qs[i].2.1[k] rfl rfl List.mem_cons_self hmo rfl ?_
    rw [hcm.get]
    refine TL.add hF rfl rfl (by omega) (by omega) rfl ?_
    refine TL.mapUpdate hF 0 (Value.int .i64) qs[i].2.1[k] _ rfl rfl rfl rfl hmo (fun es2 ck2 hm2 => ?_)
    have hc3 := hcm.put qs[i].2.1[k]
    refine TL.nil ?_
    refine TQ.then_n ?_
    refine T.seq ?_
    refine T.seq ?_
    refine T.region ?_
    refine TL.move hF rfl rfl ?_
    refine TL.bin hF rfl rfl rfl rfl ?_
    refine TL.move hF rfl rfl ?_
    refine TL.gd (t := 94) rfl (fun g18_94 => ?_) (fun g18_94 => ?_)
    ·refine TL.on rfl rfl rfl (decide_eq_true g18_94) ?_
     refine TL.move hF rfl rfl ?_
     refine TL.on rfl rfl rfl (decide_eq_true g18_94) ?_
     refine TL.move hF rfl rfl ?_
     refine TL.on rfl rfl rfl (decide_eq_true g18_94) ?_
     refine TL.subK hF rfl rfl (r := ((k - 1 : Nat) : Int)) ((wrap_i64 (by omega) (by omega)).trans (by omega)) rfl ?_
     refine TL.on rfl rfl rfl (decide_eq_true g18_94) ?_
     refine TL.indexAddr hF rfl rfl (hit.adi (i := k - 1) (by simp; omega)) (by omega) (by omega) rfl ?_
     refine TL.on rfl rfl rfl (decide_eq_true g18_94) ?_
     refine TL.load hF rfl (hit.ro.int (i := k - 1) (by omega)) rfl ?_
     refine TL.on rfl rfl rfl (decide_eq_true g18_94) ?_
     refine TL.move hF rfl rfl ?_
     refine TL.on rfl rfl rfl (decide_eq_true g18_94) ?_
     have hpr := hmi _ (List.getElem_mem (show k - 1 < qs[i].2.1.length by omega))
     have hpt := List.pairwise_iff_getElem.1 hpi (k - 1) k (by omega) hkl (by have h : (k : Int) > 0 := g18_94; omega)
     refine TL.callV hF (lawpart_fn (by omega) (by omega)) rfl rfl ?_
     rw [hpt]
     refine TL.on rfl rfl rfl (decide_eq_true g18_94) ?_
     refine TL.not hF rfl rfl ?_
     refine TL.pickT hF rfl (decide_eq_true g18_94) rfl rfl ?_
     refine TL.nil ?_
     refine TQ.then_n ?_
     refine T.cond_f rfl rfl ?_
     refine T.skip ?_
     refine TQ.then_n ?_
     refine T.seq ?_
     refine T.region ?_
     refine TL.move hF rfl rfl ?_
     refine TL.move hF rfl rfl ?_
     refine TL.indexAddr hF rfl rfl (ho.ad (i := i) hio) (by omega) (by omega) rfl ?_
     refine TL.load hF rfl ((ho.at (i := i) hio).up (by simp)) rfl ?_
     refine TL.move hF rfl rfl ?_
     refine TL.call hF (Serves_prog (l := os[i].2.1) (c := os[i].2.2) qs[i].2.1[k] (ho.it hio) (by omega) (hocap _ (List.getElem_mem hio))) rfl rfl ?_
     rintro _ _ ⟨rfl, segs, rfl⟩
     rw [serves_cols hoc1 hoc2 hc1 hc2 hxr, hoc3 _ hxm]
     refine TL.hsub _ (List.sublist_append_right _ _) ?_
     refine TL.move hF rfl rfl ?_
     refine TL.extract hF rfl rfl rfl ?_
     refine TL.extract hF rfl rfl rfl ?_
     refine TL.assign hF rfl rfl ?_
     refine TL.assign hF rfl rfl ?_
     refine TL.nil ?_
     refine TQ.then_n ?_
     refine T.seq ?_
     refine T.region ?_
     refine TL.move hF rfl rfl ?_
     refine TL.bin hF rfl rfl rfl rfl ?_
     refine TL.move hF rfl rfl ?_
     refine TL.on rfl rfl rfl rfl ?_
     refine TL.move hF rfl rfl ?_
     refine TL.on rfl rfl rfl rfl ?_
     refine TL.not hF rfl rfl ?_
     refine TL.pickF hF rfl rfl rfl rfl ?_
     refine TL.nil ?_
     refine TQ.then_n ?_
     refine T.cond_f rfl rfl ?_
     refine T.skip ?_
     refine TQ.block_n ?_
     refine TQ.then_n ?_
     refine T.region ?_
     refine TL.add hF rfl rfl (by omega) (by omega) rfl ?_
     refine TL.move hF rfl rfl ?_
     refine TL.nil ?_
     have e1 : (cs.take i).flatten ++ qs[i].2.1.take (k + 1) = (cs.take i).flatten ++ qs[i].2.1.take k ++ [qs[i].2.1[k]] := by rw [List.take_succ_eq_append_getElem hkl, List.append_assoc]
     exact TQ.round (k + 1, _, es2, ck2) ⟨hkl, hm2, by rw [e1]; exact hc3⟩ (by dsimp only; omega) ⟨rfl, rfl, rfl, rfl, rfl, rfl, rfl, rfl, rfl, rfl, rfl, rfl, rfl, trivial⟩ rfl
    ·refine TL.off hF rfl rfl rfl (decide_eq_false g18_94) rfl ?_
     refine TL.off hF rfl rfl rfl (decide_eq_false g18_94) rfl ?_
     refine TL.off hF rfl rfl rfl (decide_eq_false g18_94) rfl ?_
     refine TL.off hF rfl rfl rfl (decide_eq_false g18_94) rfl ?_
     refine TL.off hF rfl rfl rfl (decide_eq_false g18_94) rfl ?_
     refine TL.off hF rfl rfl rfl (decide_eq_false g18_94) rfl ?_
     refine TL.off hF rfl rfl rfl (decide_eq_false g18_94) rfl ?_
     refine TL.off hF rfl rfl rfl (decide_eq_false g18_94) rfl ?_
     refine TL.pickF hF rfl (decide_eq_false g18_94) rfl rfl ?_
     refine TL.nil ?_
     refine TQ.then_n ?_
     refine T.cond_f rfl rfl ?_
     refine T.skip ?_
     refine TQ.then_n ?_
     refine T.seq ?_
     refine T.region ?_
     refine TL.move hF rfl rfl ?_
     refine TL.move hF rfl rfl ?_
     refine TL.indexAddr hF rfl rfl (ho.ad (i := i) hio) (by omega) (by omega) rfl ?_
     refine TL.load hF rfl ((ho.at (i := i) hio).up (by simp)) rfl ?_
     refine TL.move hF rfl rfl ?_
     refine TL.call hF (Serves_prog (l := os[i].2.1) (c := os[i].2.2) qs[i].2.1[k] (ho.it hio) (by omega) (hocap _ (List.getElem_mem hio))) rfl rfl ?_
     rintro _ _ ⟨rfl, segs, rfl⟩
     rw [serves_cols hoc1 hoc2 hc1 hc2 hxr, hoc3 _ hxm]
     refine TL.hsub _ (List.sublist_append_right _ _) ?_
     refine TL.move hF rfl rfl ?_
     refine TL.extract hF rfl rfl rfl ?_
     refine TL.extract hF rfl rfl rfl ?_
     refine TL.assign hF rfl rfl ?_
     refine TL.assign hF rfl rfl ?_
     refine TL.nil ?_
     refine TQ.then_n ?_
     refine T.seq ?_
     refine T.region ?_
     refine TL.move hF rfl rfl ?_
     refine TL.bin hF rfl rfl rfl rfl ?_
     refine TL.move hF rfl rfl ?_
     refine TL.on rfl rfl rfl rfl ?_
     refine TL.move hF rfl rfl ?_
     refine TL.on rfl rfl rfl rfl ?_
     refine TL.not hF rfl rfl ?_
     refine TL.pickF hF rfl rfl rfl rfl ?_
     refine TL.nil ?_
     refine TQ.then_n ?_
     refine T.cond_f rfl rfl ?_
     refine T.skip ?_
     refine TQ.block_n ?_
     refine TQ.then_n ?_
     refine T.region ?_
     refine TL.add hF rfl rfl (by omega) (by omega) rfl ?_
     refine TL.move hF rfl rfl ?_
     refine TL.nil ?_
     have e1 : (cs.take i).flatten ++ qs[i].2.1.take (k + 1) = (cs.take i).flatten ++ qs[i].2.1.take k ++ [qs[i].2.1[k]] := by rw [List.take_succ_eq_append_getElem hkl, List.append_assoc]
     exact TQ.round (k + 1, _, es2, ck2) ⟨hkl, hm2, by rw [e1]; exact hc3⟩ (by dsimp only; omega) ⟨rfl, rfl, rfl, rfl, rfl, rfl, rfl, rfl, rfl, rfl, rfl, rfl, rfl, trivial⟩ rfl
   ·refine T.exit ?_
    refine TQ.then_x ?_
    refine TQ.then_x ?_
    refine TQ.block_x ?_
    refine TQ.then_n ?_
    refine T.seq ?_
    refine T.region ?_
    refine TL.move hF rfl rfl ?_
    refine TL.len hF rfl rfl ?_
    refine TL.bin hF rfl rfl rfl rfl ?_
    refine TL.move hF rfl rfl ?_
    refine TL.on rfl rfl rfl (decide_eq_false (by omega)) ?_
    refine TL.move hF rfl rfl ?_
    refine TL.on rfl rfl rfl (decide_eq_false (by omega)) ?_
    refine TL.move hF rfl rfl ?_
    refine TL.on rfl rfl rfl (decide_eq_false (by omega)) ?_
    refine TL.indexAddr hF rfl rfl (ho.ad (i := i) hio) (by omega) (by omega) rfl ?_
    refine TL.on rfl rfl rfl (decide_eq_false (by omega)) ?_
    refine TL.load hF rfl ((ho.at (i := i) hio).up (by simp)) rfl ?_
    refine TL.on rfl rfl rfl (decide_eq_false (by omega)) ?_
    refine TL.len hF rfl rfl ?_
    refine TL.on rfl rfl rfl (decide_eq_false (by omega)) ?_
    refine TL.move hF rfl rfl ?_
    refine TL.on rfl rfl rfl (decide_eq_false (by omega)) ?_
    refine TL.bin hF rfl rfl rfl rfl ?_
    refine TL.pickF hF rfl (decide_eq_false (by omega)) rfl rfl ?_
    refine TL.nil ?_
    refine TQ.then_n ?_
    refine T.cond_f rfl (decide_eq_false (fun h => h (by omega))) ?_
    refine T.skip ?_
    refine TQ.block_n ?_
    refine TQ.then_n ?_
    refine T.region ?_
    refine TL.add hF rfl rfl (by omega) (by omega) rfl ?_
    refine TL.move hF rfl rfl ?_
    refine TL.nil ?_
    have hkn : k = qs[i].2.1.length := by have h : ¬ (k : Int) < (qs[i].2.1.length : Int) := ht84; omega
    have e1 : (cs.take (i + 1)).flatten = (cs.take i).flatten ++ qs[i].2.1.take k := by rw [hkn, List.take_of_length_le (Nat.le_refl _), List.take_succ_eq_append_getElem hic, List.flatten_append, hqi]; simp
    exact TQ.round (i + 1, mp, es, ck) ⟨hiq, hmo, by rw [e1]; exact hcm⟩ (by dsimp only; omega) ⟨rfl, rfl, rfl, rfl, rfl, rfl, rfl, rfl, trivial⟩ rfl
  ·refine T.exit ?_
   refine TQ.then_x ?_
   refine TQ.then_x ?_
   refine TQ.block_x ?_
   refine TQ.then_n ?_
   refine T.seq ?_
   refine T.seq ?_
   refine T.region ?_
   refine TL.move hF rfl rfl ?_
   refine TL.len hF rfl rfl ?_
   refine TL.move hF rfl rfl ?_
   refine TL.nil ?_
   refine TQ.then_n ?_
   refine T.block ?_
   have hin : i = qs.length := by have h : ¬ (i : Int) < (qs.length : Int) := ht77; omega
   rw [List.take_of_length_le (by omega)] at hcm
   have hml := hcm.len hmo.nd hval.nd hfm2
   refine T.loop (ι := Nat) (fun j => j ≤ l.length) (fun j => [(4, .bool false), (6, .slice sa l.length sc), (13, .map (some mb)), (133, .slice sa l.length sc), (134, .int .i64 (l.length : Int)), (135, .int .i64 (j : Int))]) (fun _ => [[(mb, Obj.map es ck)]]) (fun j => l.length - j) 0 (Nat.zero_le _) ⟨rfl, rfl, rfl, rfl, rfl, rfl, trivial⟩ rfl ?_
   intro j hj
   refine T.seq ?_
   refine T.region ?_
   refine TL.bin hF rfl rfl rfl rfl ?_
   refine TL.nil ?_
   refine TQ.then_n ?_
   refine T.seq ?_
   first | refine T.cond_d rfl (fun ht136 => ?_) (fun ht136 => ?_) | refine T.cond _ rfl (fun ht136 => ?_) (fun ht136 => ?_)
   ·refine T.skip ?_
    refine TQ.then_n ?_
    refine T.seq ?_
    refine T.block ?_
    refine T.seq ?_
    refine T.region ?_
    have hjl : j < l.length := by have h : (j : Int) < (l.length : Int) := ht136; omega
    have hone : cs.flatten.count l[j] = 1 := Nat.le_antisymm (List.nodup_iff_count.1 hfn _) (List.count_pos_iff.2 ((hfm2 _).2 (List.getElem_mem hjl)))
    refine TL.indexAddr hF rfl rfl (hsr.adi (i := j) (by simp; omega)) (by omega) (by omega) rfl ?_
    refine TL.load hF rfl (hsr.ro.int (i := j) hjl) rfl ?_
    refine TL.assign hF rfl rfl ?_
    refine TL.nil ?_
    refine TQ.then_n ?_
    refine T.seq ?_
    refine T.region ?_
    refine TL.move hF rfl rfl ?_
    refine TL.move hF rfl rfl ?_
    refine look1 hF (K := Value.int .i64) l[j] rfl rfl List.mem_cons_self hmo rfl ?_
    rw [hcm.get, hone]
    refine TL.bin hF rfl rfl rfl rfl ?_
    refine TL.nil ?_
    refine TQ.then_n ?_
    refine T.cond_f rfl rfl ?_
    refine T.skip ?_
    refine TQ.block_n ?_
    refine TQ.then_n ?_
    refine T.region ?_
    refine TL.add hF rfl rfl (by omega) (by omega) rfl ?_
    refine TL.move hF rfl rfl ?_
    refine TL.nil ?_
    exact TQ.round (j + 1) hjl (by omega) ⟨rfl, rfl, rfl, rfl, rfl, rfl, trivial⟩ rfl
   ·refine T.exit ?_
    refine TQ.then_x ?_
    refine TQ.then_x ?_
    refine TQ.block_x ?_
    refine TQ.then_n ?_
    refine T.seq ?_
    refine T.region ?_
    refine TL.move hF rfl rfl ?_
    refine lenM hF rfl List.mem_cons_self hmo rfl ?_
    refine TL.move hF rfl rfl ?_
    refine TL.len hF rfl rfl ?_
    refine TL.bin hF rfl rfl rfl rfl ?_
    refine TL.move hF rfl rfl ?_
    refine TL.on rfl rfl rfl (decide_eq_true (by omega)) ?_
    refine TL.hsub [] (List.nil_sublist _) ?_
    refine TL.call hF (awake_fn hg) rfl rfl ?_
    rintro _ _ rfl
    refine TL.pickT hF rfl (decide_eq_true (by omega)) rfl rfl ?_
    refine TL.assign hF rfl rfl ?_
    refine TL.nil ?_
    refine TQ.then_n ?_
    refine T.ret ?_
    exact TQ.retsF [4] _ hb rfl rfl rfl (fun _ => rfl)
end Go.Proofs.YtfnalecnnmkgbaaDoor
namespace Go.Proofs.YtfnalecnnmkgbaaDoor
open Go.Sl Go.ChangeShapes Go.WideShapes Go.ChangeAt Go.RowKit
set_option maxRecDepth 100000 in
theorem chainCovers_lifted (os : Os) (started : os.Started) (H : Type) (enc : TypeId × Value → H) :
    ReturnsInHanded {} Tryd.checked os 5 .any (fun w args => (Rows.chainCoversSpec.pre enc Tryd.prog Tryd.f5 [] false w args ∧ laidMetH Tryd.prog laidL w) ∧ sizedMet enc Tryd.prog Tryd.f5 (OpenSpec.ofChange Rows.chainCoversSpec) false w args)
      (Rows.chainCoversSpec.post enc Tryd.prog Tryd.f5 false true false false) := by
  refine returnsInHanded_of_change_and (C := Tryd.checked) (X := fun w _ => laidMetH Tryd.prog laidL w) (fun _ _ _ hh h => h.of_heap hh) Tryd.own started (by kernel_rfl) Tryd.func5
    (ChangeSpec.witness_shaped (enc := enc) (C := Tryd.checked) (os := os) (X := fun w _ => laidMetH Tryd.prog laidL w) false (World.doorLaid Tryd.prog 2000 os) #[.int .u8 0, .slice none 0 0] 8 rfl (World.shaped_of_RefB (by kernel_rfl) (by kernel_rfl)) (by kernel_rfl) (by kernel_rfl) (by kernel_rfl) (door_met os _)) ?_
  intro W base args ds gs before hval0 hW _ hwt hL _
  have hval' : ∀ (j : Nat) t v, Tryd.f5.params[j]? = some t → args[j]? = some v → Value.okWide Tryd.prog W .any base t v := hval0
  have hW' := hW
  obtain ⟨p, q, hA0, hV, rfl, hfz, hnd⟩ := hW
  have hA : DataW.TrodAll enc Tryd.prog W 0 (fun _ => true) true [5, 39] args.toList ds p := hA0
  obtain ⟨v0, v1, d0, d1, p0, p1, rfl, rfl, rfl, h0, h1⟩ := trodAll_two hA
  obtain ⟨z0, rfl, _, _, wz0⟩ := open_int u5 (hval' 0 5 v0 rfl rfl) h0
  obtain ⟨hz0, hy0⟩ := wf_u8 wz0
  obtain ⟨m0, rfl⟩ : ∃ m : Nat, z0 = (m : Int) := ⟨z0.toNat, by omega⟩
  obtain ⟨_, _, _, rfl⟩ := okWide_slice u39 (hval' 1 39 v1 rfl rfl)
  obtain ⟨_, h1⟩ := h1
  obtain ⟨a1, xs1, c1, e1, hc1, hl1, hx1, hb1⟩ := nats_read 65536 b16 u39 u74 k74 h1
  rw [e1] at hW' ⊢
  refine (calls_true (ChainCovers_fn (kinds_of_laid hL) (n := m0) (by omega) hx1 hl1 hb1)).mono fun e W' ⟨he, hw⟩ => ⟨_, he, ?_⟩
  exact law_post (f := Tryd.f5) Tryd.laidOut rfl 4 rfl u4 hW' rfl (by decide +kernel) hw
theorem chainCovers_said : Rows.ChainCoversSaid :=
  OpenClaim.holds_of_wide 5 Tryd.f5 rfl rfl rfl rfl rfl rfl rfl ⟨rfl, rfl, rfl, rfl, rfl⟩ rfl rfl rfl rfl rfl (by kernel_rfl) Tryd.func5 (by kernel_rfl)
    (of_decide_eq_true (by kernel_rfl)) (by unfold Func.isWrapper; first | (rw [if_pos (by decide +kernel)]; kernel_rfl) | (rw [if_neg (by decide +kernel)]; exact ⟨rfl, rfl⟩))
    (fun os started H enc _ => chainCovers_lifted os started H enc)
theorem chainCovers_holds : Rows.ChainCoversCardSaid :=
  Claim7.holds_tied_plain_at .later [] [.funcs] true (true, "7ca215f89dcb56192907894ebb202dba9dfd88656de70e05d24e69a29da322ff") true
    chainCovers_said (fun _ h => by cases h) (by kernel_rfl) (fun _ h => by cases h) chainCovers_row_tie rfl ⟨rfl, rfl⟩ (by kernel_rfl) rfl
    (fun f fn hf hfn => by
      obtain rfl : f = 5 := Option.some.inj ((show Tryd.prog.funcNamed "deltaworks/deltaworkslaw17.ChainCovers" = some 5 by kernel_rfl).symm.trans hf) |>.symm
      obtain rfl : fn = Tryd.f5 := (Option.some.inj (Tryd.func5.symm.trans hfn)).symm
      exact ⟨by kernel_rfl, fun j t ht => by
        have ht2 : (#[5, 39] : Array TypeId)[j]? = some t := ht
        have hm : t ∈ ([5, 39] : List TypeId) := by simpa using Array.mem_of_getElem? ht2
        have hall : (([5, 39] : List TypeId).all fun u => !Tryd.prog.wantsStandIn u) = true := by kernel_rfl
        exact (show Tryd.prog.wantsStandIn t = false by simpa using List.all_eq_true.1 hall t hm)⟩)
    (by kernel_rfl)
#print axioms chainCovers_holds
end Go.Proofs.YtfnalecnnmkgbaaDoor
