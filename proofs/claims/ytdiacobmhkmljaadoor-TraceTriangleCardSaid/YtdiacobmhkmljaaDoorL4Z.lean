/- The theorem of the distance, for every input. No condition. -/
import Derived.Test.YtdiacobmhkmljaaDoorTf
import Derived.Test.YtdiacobmhkmljaaDoorCards
import Derived.Test.YtdiacobmhkmljaaDoorTie
/- The theorem of the distance, walked. -/
namespace Go.Proofs.YtdiacobmhkmljaaDoor
open Go.Sl
variable {S : Nat → Prop} {w0 : World} {η : Heap}
theorem asked_set {F : List Ex} {c : List Int} {top : Key} {i : Nat} {v : Int} (h : askedS F c top = 0) (hv : isW v = true) : askedS F (c.set i v) top = 0 :=
 asked_edit (l := [((i : Int), v)]) h fun x hx => by rw [List.mem_singleton.1 hx]; exact hv
theorem isW_turn (n : Int) : isW (turnI n 7) = true := by
 have h := turnI_range n (m := 7) (by decide)
 rw [isW_iff]; omega
theorem ints_set {l : List Int} {i : Nat} {v : Int} : ints (l.set i v) = (ints l).set i (.int .i64 v) := by unfold ints; rw [List.map_set]
theorem run_made {F : List Ex} {cells : List Int} {top : Key} (h : askedS F cells top = 0) : runE F cells top = (traceS F cells top, 0) := by unfold runE; rw [if_pos h]
theorem tra_of {F : List Ex} {cells : List Int} {top : Key} (h : askedS F cells top = 0) : Tra F cells top (traceS F cells top) ∧ (callsS F cells top).2 = V F cells top ∧ (traceS F cells top).length ≤ 1608 := by
 obtain ⟨hs, k1, k2, k3, k4⟩ := scn_of h
 obtain ⟨hg, h2, h3⟩ := calls_ok (cells := cells) hs.right k1 k2 k3 (by omega)
 refine ⟨h3, h2, ?_⟩
 have := good_len hs hg
 unfold traceS; rw [sort_len hg.nd]; exact this
theorem apart_le {a b : List Nd} {w : Int} (ha : a.length ≤ 1608) (hb : b.length ≤ 1608) : 0 ≤ apart (againstS a b w) ∧ apart (againstS a b w) ≤ 4824 := by
 unfold apart againstS
 simp only [keysN, List.length_map]
 have f1 := List.length_filter_le (fun x => !hasN a x.key) b
 have f2 := List.length_filter_le (againB a) b
 have f3 := List.length_filter_le (fun x => !hasN b x.key) a
 omega
structure T3 where
 i : Nat
 bs : List Int
 cs : List Int
 cb : Array Value
 cc : Array Value
set_option maxHeartbeats 8000000 in
theorem TraceTriangle_fn {a b : Option Addr} {by' l : List Int} {c d : Nat} (hT : Tabs S w0) (hby : Row S w0 [] a (ints by')) (hbyl : by'.length < 9223372036854775808) (hbyb : ∀ x ∈ by', I64 x) (hl : Row S w0 [] b (ints l)) (hll : l.length < 9223372036854775808) (hlb : ∀ x ∈ l, I64 x) :
  Rt Tryd.prog 6 [.slice a by'.length c, .slice b l.length d].toArray S w0 η (fun v _ => v = .bool true) := by
 have hF := open_wide
 refine Rt.of (fn := Tryd.f6) Tryd.func6 rfl rfl ?_
 refine T.seq ?_
 refine T.region ?_
 refine TL.assign hF rfl rfl ?_
 refine TL.nil ?_
 refine TQ.then_n ?_
 refine T.seq ?_
 refine T.region ?_
 refine TL.move hF rfl rfl ?_
 have hb := Back.refl S w0
 refine TL.call hF (Made_fn hby hbyl hbyb) rfl rfl ?_
 rintro _ _ ⟨fa, fc, fl, ca, cc, cells, top, segs, rfl, hfs, hcs, hask, hc8, rfl⟩
 obtain ⟨hsc, hk⟩ := scn_of hask
 have hc1 := hsc.c1
 have hfl : fl.length < 9223372036854775808 := by have := hsc.many; rw [List.length_map] at this; omega
 refine TL.freeze (segs) rfl (fun S1 w1 hz1 => ?_)
 replace hb := hb.frz hz1
 replace hT := hT.old hz1
 replace hl := hl.old hz1
 replace hfs := hfs.frz hz1
 replace hcs := hcs.frz hz1
 refine TL.move hF rfl rfl ?_
 refine TL.extract hF rfl rfl rfl ?_
 refine TL.extract hF rfl rfl rfl ?_
 refine TL.extract hF rfl rfl rfl ?_
 refine TL.alloc hF rfl (fun b7 => ?_)
 refine TL.assign hF rfl rfl ?_
 refine TL.assign hF rfl rfl ?_
 refine TL.storeAs hF (kC top) (kC top) 0 (cs := [.int .i64 0, .int .i64 0]) rfl rfl rfl rfl (kC1 _) (Nat.le_refl 2) rfl ?_
 refine TL.nil ?_
 refine TQ.then_n ?_
 refine T.seq ?_
 refine T.region ?_
 refine TL.move hF rfl rfl ?_
 refine TL.call hF (Copy_fn (c := cc) hcs.ro (by omega)) rfl rfl ?_
 rintro _ _ ⟨a1, cap1, seg1, rfl, ho1, rfl⟩
 obtain ⟨g1, gc2, cur1, hgv, rfl, hgsz⟩ := OSl.ex ho1 (by omega)
 simp only [Value.slice.injEq, true_and] at hgv
 obtain ⟨rfl, rfl⟩ := hgv
 refine TL.move hF rfl rfl ?_
 refine TL.call hF (Copy_fn (c := cc) hcs.ro (by omega)) rfl rfl ?_
 rintro _ _ ⟨a2, cap2, seg2, rfl, ho2, rfl⟩
 obtain ⟨g2, gc2, cur2, hgv, rfl, hgsz⟩ := OSl.ex ho2 (by omega)
 simp only [Value.slice.injEq, true_and] at hgv
 obtain ⟨rfl, rfl⟩ := hgv
 refine TL.assign hF rfl rfl ?_
 refine TL.assign hF rfl rfl ?_
 refine TL.nil ?_
 refine TQ.then_n ?_
 refine T.seq ?_
 refine T.seq ?_
 refine T.region ?_
 refine TL.assign hF rfl rfl ?_
 refine TL.nil ?_
 refine TQ.then_n ?_
 refine T.block ?_
 refine T.loop (ι := T3) (fun s => s.i ≤ cells.length ∧ s.bs.length = cells.length ∧ s.cs.length = cells.length ∧ askedS (fl.map TE.ex) s.bs top = 0 ∧ askedS (fl.map TE.ex) s.cs top = 0 ∧ OSl 3 1 (.slice (some ⟨g1, 0, none⟩) cells.length cap1) cells.length (ints s.bs) [(g1, .cells s.cb 3 (0, 0))] ∧ OSl 3 1 (.slice (some ⟨g2, 0, none⟩) cells.length cap2) cells.length (ints s.cs) [(g2, .cells s.cc 3 (0, 0))]) (fun s => [(1, .slice b l.length d), (4, .bool false), (5, .slice fa fl.length fc), (6, .slice ca cells.length cc), (7, ptr b7), (8, .slice (some ⟨g1, 0, none⟩) cells.length cap1), (9, .slice (some ⟨g2, 0, none⟩) cells.length cap2), (10, .int .i64 (s.i : Int))]) (fun s => [(g2, .cells s.cc 3 (0, 0))] :: [(g1, .cells s.cb 3 (0, 0))] :: ([(b7, Obj.cells (kC top).toArray 25 (0, 0))] :: η)) (fun s => cells.length - s.i) ⟨0, cells, cells, cur1, cur2⟩ ⟨Nat.zero_le _, rfl, rfl, hask, hask, ho1, ho2⟩ ⟨rfl, rfl, rfl, rfl, rfl, rfl, rfl, rfl, trivial⟩ rfl ?_
 rintro ⟨i, bs, cs, cb, cc2⟩ ⟨hi, hbl, hcl, hab, hac, ho1, ho2⟩
 dsimp only at hi hbl hcl hab hac ho1 ho2
 have hgs1 : cells.length ≤ cb.size := by
  obtain ⟨g9, c9, cur9, e9, s9, z9⟩ := OSl.ex ho1 (by omega)
  simp only [List.cons.injEq, Prod.mk.injEq, Obj.cells.injEq, and_true] at s9
  rw [← s9.2] at z9; omega
 have hgs2 : cells.length ≤ cc2.size := by
  obtain ⟨g9, c9, cur9, e9, s9, z9⟩ := OSl.ex ho2 (by omega)
  simp only [List.cons.injEq, Prod.mk.injEq, Obj.cells.injEq, and_true] at s9
  rw [← s9.2] at z9; omega
 refine T.seq ?_
 refine T.seq ?_
 refine T.region ?_
 refine TL.move hF rfl rfl ?_
 refine TL.move hF rfl rfl ?_
 refine TL.len hF rfl rfl ?_
 refine TL.bin hF rfl rfl rfl rfl ?_
 refine TL.nil ?_
 refine TQ.then_n ?_
 first | refine T.cond_d rfl (fun ht36 => ?_) (fun ht36 => ?_) | refine T.cond _ rfl (fun ht36 => ?_) (fun ht36 => ?_)
 ·refine T.skip ?_
  refine TQ.then_n ?_
  refine T.seq ?_
  refine T.block ?_
  refine T.seq ?_
  refine T.seq ?_
  refine T.region ?_
  refine TL.move hF rfl rfl ?_
  refine TL.move hF rfl rfl ?_
  refine TL.callV hF (Nth_fn (i : Int) hl.ro (by omega)) rfl rfl ?_
  refine TL.callV hF (Turn_fn (nthI l (i : Int)) (m := 3) (by decide)) rfl rfl ?_
  refine TL.bin hF rfl rfl rfl rfl ?_
  refine TL.nil ?_
  refine TQ.then_n ?_
  first | refine T.cond_d rfl (fun ht43 => ?_) (fun ht43 => ?_) | refine T.cond _ rfl (fun ht43 => ?_) (fun ht43 => ?_)
  ·refine T.region ?_
   refine TL.move hF rfl rfl ?_
   refine TL.move hF rfl rfl ?_
   refine TL.move hF rfl rfl ?_
   refine TL.move hF rfl rfl ?_
   refine TL.callV hF (Nth_fn (i : Int) hl.ro (by omega)) rfl rfl ?_
   have hil : i < cells.length := by have h : (i : Int) < (cells.length : Int) := ht36; omega
   refine TL.quoI hF rfl rfl (by decide) (wrap_i64 (tdiv1_i64 (nth_i64 hlb (i : Int)) (by decide)).1 (tdiv1_i64 (nth_i64 hlb (i : Int)) (by decide)).2) rfl ?_
   refine TL.callV hF (Turn_fn (Int.tdiv (nthI l (i : Int)) 3) (m := 7) (by decide)) rfl rfl ?_
   refine TL.indexAddr hF rfl rfl ⟨_, rfl, rfl⟩ (by omega) (by omega) rfl ?_
   refine TL.storeI hF 1 rfl rfl rfl rfl (by have h3 := hgs1; simp; omega) ?_
   refine TL.nil ?_
   refine TQ.then_n ?_
   refine T.seq ?_
   refine T.region ?_
   refine TL.move hF rfl rfl ?_
   refine TL.move hF rfl rfl ?_
   refine TL.add hF rfl rfl (by omega) (by omega) rfl ?_
   refine TL.callV hF (Nth_fn ((i : Int) + 9) hl.ro (by omega)) rfl rfl ?_
   refine TL.callV hF (Turn_fn (nthI l ((i : Int) + 9)) (m := 3) (by decide)) rfl rfl ?_
   refine TL.bin hF rfl rfl rfl rfl ?_
   refine TL.nil ?_
   refine TQ.then_n ?_
   first | refine T.cond_d rfl (fun ht57 => ?_) (fun ht57 => ?_) | refine T.cond _ rfl (fun ht57 => ?_) (fun ht57 => ?_)
   ·refine T.region ?_
    refine TL.move hF rfl rfl ?_
    refine TL.move hF rfl rfl ?_
    refine TL.move hF rfl rfl ?_
    refine TL.move hF rfl rfl ?_
    refine TL.add hF rfl rfl (by omega) (by omega) rfl ?_
    refine TL.callV hF (Nth_fn ((i : Int) + 9) hl.ro (by omega)) rfl rfl ?_
    have hil : i < cells.length := by have h : (i : Int) < (cells.length : Int) := ht36; omega
    refine TL.quoI hF rfl rfl (by decide) (wrap_i64 (tdiv1_i64 (nth_i64 hlb ((i : Int) + 9)) (by decide)).1 (tdiv1_i64 (nth_i64 hlb ((i : Int) + 9)) (by decide)).2) rfl ?_
    refine TL.callV hF (Turn_fn (Int.tdiv (nthI l ((i : Int) + 9)) 3) (m := 7) (by decide)) rfl rfl ?_
    refine TL.indexAddr hF rfl rfl ⟨_, rfl, rfl⟩ (by omega) (by omega) rfl ?_
    refine TL.storeI hF 0 rfl rfl rfl rfl (by have h3 := hgs2; simp; omega) ?_
    refine TL.nil ?_
    refine TQ.block_n ?_
    refine TQ.then_n ?_
    refine T.region ?_
    refine TL.move hF rfl rfl ?_
    refine TL.add hF rfl rfl (by dsimp only; omega) (by dsimp only; omega) rfl ?_
    refine TL.assign hF rfl rfl ?_
    refine TL.nil ?_
    have hil : i < cells.length := by have h : (i : Int) < (cells.length : Int) := ht36; omega
    refine TQ.round ⟨i + 1, bs.set i (turnI (Int.tdiv (nthI l (i : Int)) 3) 7), cs.set i (turnI (Int.tdiv (nthI l ((i : Int) + 9)) 3) 7), cb.setIfInBounds i (.int .i64 (turnI (Int.tdiv (nthI l (i : Int)) 3) 7)), cc2.setIfInBounds i (.int .i64 (turnI (Int.tdiv (nthI l ((i : Int) + 9)) 3) 7))⟩ ⟨by dsimp only; omega, (by dsimp only; rw [List.length_set]; exact hbl), (by dsimp only; rw [List.length_set]; exact hcl), asked_set hab (isW_turn _), asked_set hac (isW_turn _), (by dsimp only; rw [ints_set]; exact ho1.put), (by dsimp only; rw [ints_set]; exact ho2.put)⟩ (by dsimp only; omega) ⟨rfl, rfl, rfl, rfl, rfl, rfl, rfl, rfl, trivial⟩ (by simp)
   ·refine T.skip ?_
    refine TQ.block_n ?_
    refine TQ.then_n ?_
    refine T.region ?_
    refine TL.move hF rfl rfl ?_
    refine TL.add hF rfl rfl (by dsimp only; omega) (by dsimp only; omega) rfl ?_
    refine TL.assign hF rfl rfl ?_
    refine TL.nil ?_
    have hil : i < cells.length := by have h : (i : Int) < (cells.length : Int) := ht36; omega
    refine TQ.round ⟨i + 1, bs.set i (turnI (Int.tdiv (nthI l (i : Int)) 3) 7), cs, cb.setIfInBounds i (.int .i64 (turnI (Int.tdiv (nthI l (i : Int)) 3) 7)), cc2⟩ ⟨by dsimp only; omega, (by dsimp only; rw [List.length_set]; exact hbl), hcl, asked_set hab (isW_turn _), hac, (by dsimp only; rw [ints_set]; exact ho1.put), ho2⟩ (by dsimp only; omega) ⟨rfl, rfl, rfl, rfl, rfl, rfl, rfl, rfl, trivial⟩ (by simp)
  ·refine T.skip ?_
   refine TQ.then_n ?_
   refine T.seq ?_
   refine T.region ?_
   refine TL.move hF rfl rfl ?_
   refine TL.move hF rfl rfl ?_
   refine TL.add hF rfl rfl (by omega) (by omega) rfl ?_
   refine TL.callV hF (Nth_fn ((i : Int) + 9) hl.ro (by omega)) rfl rfl ?_
   refine TL.callV hF (Turn_fn (nthI l ((i : Int) + 9)) (m := 3) (by decide)) rfl rfl ?_
   refine TL.bin hF rfl rfl rfl rfl ?_
   refine TL.nil ?_
   refine TQ.then_n ?_
   first | refine T.cond_d rfl (fun ht57 => ?_) (fun ht57 => ?_) | refine T.cond _ rfl (fun ht57 => ?_) (fun ht57 => ?_)
   ·refine T.region ?_
    refine TL.move hF rfl rfl ?_
    refine TL.move hF rfl rfl ?_
    refine TL.move hF rfl rfl ?_
    refine TL.move hF rfl rfl ?_
    refine TL.add hF rfl rfl (by omega) (by omega) rfl ?_
    refine TL.callV hF (Nth_fn ((i : Int) + 9) hl.ro (by omega)) rfl rfl ?_
    have hil : i < cells.length := by have h : (i : Int) < (cells.length : Int) := ht36; omega
    refine TL.quoI hF rfl rfl (by decide) (wrap_i64 (tdiv1_i64 (nth_i64 hlb ((i : Int) + 9)) (by decide)).1 (tdiv1_i64 (nth_i64 hlb ((i : Int) + 9)) (by decide)).2) rfl ?_
    refine TL.callV hF (Turn_fn (Int.tdiv (nthI l ((i : Int) + 9)) 3) (m := 7) (by decide)) rfl rfl ?_
    refine TL.indexAddr hF rfl rfl ⟨_, rfl, rfl⟩ (by omega) (by omega) rfl ?_
    refine TL.storeI hF 0 rfl rfl rfl rfl (by have h3 := hgs2; simp; omega) ?_
    refine TL.nil ?_
    refine TQ.block_n ?_
    refine TQ.then_n ?_
    refine T.region ?_
    refine TL.move hF rfl rfl ?_
    refine TL.add hF rfl rfl (by dsimp only; omega) (by dsimp only; omega) rfl ?_
    refine TL.assign hF rfl rfl ?_
    refine TL.nil ?_
    have hil : i < cells.length := by have h : (i : Int) < (cells.length : Int) := ht36; omega
    refine TQ.round ⟨i + 1, bs, cs.set i (turnI (Int.tdiv (nthI l ((i : Int) + 9)) 3) 7), cb, cc2.setIfInBounds i (.int .i64 (turnI (Int.tdiv (nthI l ((i : Int) + 9)) 3) 7))⟩ ⟨by dsimp only; omega, hbl, (by dsimp only; rw [List.length_set]; exact hcl), hab, asked_set hac (isW_turn _), ho1, (by dsimp only; rw [ints_set]; exact ho2.put)⟩ (by dsimp only; omega) ⟨rfl, rfl, rfl, rfl, rfl, rfl, rfl, rfl, trivial⟩ (by simp)
   ·refine T.skip ?_
    refine TQ.block_n ?_
    refine TQ.then_n ?_
    refine T.region ?_
    refine TL.move hF rfl rfl ?_
    refine TL.add hF rfl rfl (by dsimp only; omega) (by dsimp only; omega) rfl ?_
    refine TL.assign hF rfl rfl ?_
    refine TL.nil ?_
    have hil : i < cells.length := by have h : (i : Int) < (cells.length : Int) := ht36; omega
    refine TQ.round ⟨i + 1, bs, cs, cb, cc2⟩ ⟨by dsimp only; omega, hbl, hcl, hab, hac, ho1, ho2⟩ (by dsimp only; omega) ⟨rfl, rfl, rfl, rfl, rfl, rfl, rfl, rfl, trivial⟩ (by rfl)
 ·refine T.exit ?_
  refine TQ.then_x ?_
  refine TQ.then_x ?_
  refine TQ.block_x ?_
  refine TQ.then_n ?_
  refine T.seq ?_
  refine T.region ?_
  refine TL.move hF rfl rfl ?_
  refine TL.move hF rfl rfl ?_
  refine TL.move hF rfl rfl ?_
  have hrb : Row S1 w1 [[(g2, Obj.cells cc2 3 (0, 0))], [(g1, Obj.cells cb 3 (0, 0))]] (some ⟨g1, 0, none⟩) (ints bs) := OSl.row ho1 (by simp)
  have hrc : Row S1 w1 [[(g2, Obj.cells cc2 3 (0, 0))], [(g1, Obj.cells cb 3 (0, 0))]] (some ⟨g2, 0, none⟩) (ints cs) := OSl.row ho2 (by simp)
  refine TL.freeze ([[(g2, Obj.cells cc2 3 (0, 0))], [(g1, Obj.cells cb 3 (0, 0))]]) rfl (fun S2 w2 hz2 => ?_)
  replace hb := hb.frz hz2
  replace hT := hT.old hz2
  replace hl := hl.old hz2
  replace hfs := hfs.old hz2
  replace hcs := hcs.old hz2
  replace hrb := hrb.frz hz2
  replace hrc := hrc.frz hz2
  obtain ⟨ta, _, la⟩ := tra_of hask
  obtain ⟨tb, _, lb⟩ := tra_of hab
  obtain ⟨tc, _, lc⟩ := tra_of hac
  refine TL.loadA hF (kC top) rfl rfl (own_list (i := 0) (cs := kC top) rfl) rfl ?_
  have e1 : distS (fl.map TE.ex) cells bs top = (apart (againstS (traceS (fl.map TE.ex) cells top) (traceS (fl.map TE.ex) bs top) 0), 0) := dist_yes hask hab (by omega)
  have c1 := Distance_fn (η := [(b7, Obj.cells (kC top).toArray 25 (0, 0))] :: η) (fc := fc) (cc := cc) (dc := cap1) (top := top) (cells := cells) (others := bs) hT hfs hfl hcs (by omega) hrb (by omega)
  rw [e1, hbl] at c1
  refine TL.call hF c1 rfl rfl ?_
  rintro _ _ ⟨rfl, rfl⟩
  refine TL.move hF rfl rfl ?_
  refine TL.extract hF rfl rfl rfl ?_
  refine TL.extract hF rfl rfl rfl ?_
  refine TL.assign hF rfl rfl ?_
  refine TL.assign hF rfl rfl ?_
  refine TL.nil ?_
  refine TQ.then_n ?_
  refine T.seq ?_
  refine T.region ?_
  refine TL.move hF rfl rfl ?_
  refine TL.move hF rfl rfl ?_
  refine TL.move hF rfl rfl ?_
  refine TL.loadA hF (kC top) rfl rfl (own_list (i := 0) (cs := kC top) rfl) rfl ?_
  have e2 : distS (fl.map TE.ex) bs cells top = (apart (againstS (traceS (fl.map TE.ex) bs top) (traceS (fl.map TE.ex) cells top) 0), 0) := dist_yes hab hask (by omega)
  have c2 := Distance_fn (η := [(b7, Obj.cells (kC top).toArray 25 (0, 0))] :: η) (fc := fc) (cc := cap1) (dc := cc) (top := top) (cells := bs) (others := cells) hT hfs hfl hrb (by omega) hcs (by omega)
  rw [e2, hbl] at c2
  refine TL.call hF c2 rfl rfl ?_
  rintro _ _ ⟨rfl, rfl⟩
  refine TL.move hF rfl rfl ?_
  refine TL.extract hF rfl rfl rfl ?_
  refine TL.extract hF rfl rfl rfl ?_
  refine TL.assign hF rfl rfl ?_
  refine TL.assign hF rfl rfl ?_
  refine TL.nil ?_
  refine TQ.then_n ?_
  refine T.seq ?_
  refine T.region ?_
  refine TL.move hF rfl rfl ?_
  refine TL.move hF rfl rfl ?_
  refine TL.move hF rfl rfl ?_
  refine TL.loadA hF (kC top) rfl rfl (own_list (i := 0) (cs := kC top) rfl) rfl ?_
  have e3 : distS (fl.map TE.ex) bs cs top = (apart (againstS (traceS (fl.map TE.ex) bs top) (traceS (fl.map TE.ex) cs top) 0), 0) := dist_yes hab hac (by omega)
  have c3 := Distance_fn (η := [(b7, Obj.cells (kC top).toArray 25 (0, 0))] :: η) (fc := fc) (cc := cap1) (dc := cap2) (top := top) (cells := bs) (others := cs) hT hfs hfl hrb (by omega) hrc (by omega)
  rw [e3, hbl, hcl] at c3
  refine TL.call hF c3 rfl rfl ?_
  rintro _ _ ⟨rfl, rfl⟩
  refine TL.move hF rfl rfl ?_
  refine TL.extract hF rfl rfl rfl ?_
  refine TL.extract hF rfl rfl rfl ?_
  refine TL.assign hF rfl rfl ?_
  refine TL.assign hF rfl rfl ?_
  refine TL.nil ?_
  refine TQ.then_n ?_
  refine T.seq ?_
  refine T.region ?_
  refine TL.move hF rfl rfl ?_
  refine TL.move hF rfl rfl ?_
  refine TL.move hF rfl rfl ?_
  refine TL.loadA hF (kC top) rfl rfl (own_list (i := 0) (cs := kC top) rfl) rfl ?_
  have e4 : distS (fl.map TE.ex) cells cs top = (apart (againstS (traceS (fl.map TE.ex) cells top) (traceS (fl.map TE.ex) cs top) 0), 0) := dist_yes hask hac (by omega)
  have c4 := Distance_fn (η := [(b7, Obj.cells (kC top).toArray 25 (0, 0))] :: η) (fc := fc) (cc := cc) (dc := cap2) (top := top) (cells := cells) (others := cs) hT hfs hfl hcs (by omega) hrc (by omega)
  rw [e4, hcl] at c4
  refine TL.call hF c4 rfl rfl ?_
  rintro _ _ ⟨rfl, rfl⟩
  refine TL.move hF rfl rfl ?_
  refine TL.extract hF rfl rfl rfl ?_
  refine TL.extract hF rfl rfl rfl ?_
  refine TL.assign hF rfl rfl ?_
  refine TL.assign hF rfl rfl ?_
  refine TL.nil ?_
  refine TQ.then_n ?_
  refine T.seq ?_
  refine T.region ?_
  refine TL.move hF rfl rfl ?_
  refine TL.move hF rfl rfl ?_
  refine TL.loadA hF (kC top) rfl rfl (own_list (i := 0) (cs := kC top) rfl) rfl ?_
  have q1 := Run_fn (η := [(b7, Obj.cells (kC top).toArray 25 (0, 0))] :: η) (fc := fc) (top := top) (cells := cells) (cc := cc) hT hfs hfl hcs (by omega)
  rw [run_made hask] at q1
  refine TL.call hF q1 rfl rfl ?_
  rintro _ _ ⟨xa, xc, lx, segx, rfl, hlx, hlxn, _, rfl⟩
  dsimp only at hlx
  refine TL.freeze (segx) rfl (fun S3 w3 hz3 => ?_)
  replace hb := hb.frz hz3
  replace hT := hT.old hz3
  replace hl := hl.old hz3
  replace hfs := hfs.old hz3
  replace hcs := hcs.old hz3
  replace hrb := hrb.old hz3
  replace hrc := hrc.old hz3
  replace hlxn := hlxn.frz hz3
  refine TL.move hF rfl rfl ?_
  refine TL.extract hF rfl rfl rfl ?_
  refine TL.extract hF rfl rfl rfl ?_
  refine TL.assign hF rfl rfl ?_
  refine TL.assign hF rfl rfl ?_
  refine TL.nil ?_
  refine TQ.then_n ?_
  refine T.seq ?_
  refine T.region ?_
  refine TL.move hF rfl rfl ?_
  refine TL.move hF rfl rfl ?_
  refine TL.loadA hF (kC top) rfl rfl (own_list (i := 0) (cs := kC top) rfl) rfl ?_
  have q2 := Run_fn (η := [(b7, Obj.cells (kC top).toArray 25 (0, 0))] :: η) (fc := fc) (top := top) (cells := bs) (cc := cap1) hT hfs hfl hrb (by omega)
  rw [run_made hab, hbl] at q2
  refine TL.call hF q2 rfl rfl ?_
  rintro _ _ ⟨ya, yc, ly, segy, rfl, hly, hlyn, _, rfl⟩
  dsimp only at hly
  refine TL.freeze (segy) rfl (fun S4 w4 hz4 => ?_)
  replace hb := hb.frz hz4
  replace hT := hT.old hz4
  replace hl := hl.old hz4
  replace hfs := hfs.old hz4
  replace hcs := hcs.old hz4
  replace hrb := hrb.old hz4
  replace hrc := hrc.old hz4
  replace hlxn := hlxn.old hz4
  replace hlyn := hlyn.frz hz4
  refine TL.move hF rfl rfl ?_
  refine TL.extract hF rfl rfl rfl ?_
  refine TL.extract hF rfl rfl rfl ?_
  refine TL.assign hF rfl rfl ?_
  refine TL.assign hF rfl rfl ?_
  refine TL.nil ?_
  refine TQ.then_n ?_
  refine T.seq ?_
  refine T.region ?_
  refine TL.move hF rfl rfl ?_
  refine TL.bin hF rfl rfl rfl rfl ?_
  refine TL.move hF rfl rfl ?_
  refine TL.on rfl rfl rfl rfl ?_
  refine TL.move hF rfl rfl ?_
  refine TL.on rfl rfl rfl rfl ?_
  refine TL.bin hF rfl rfl rfl rfl ?_
  refine TL.pickT hF rfl rfl rfl rfl ?_
  refine TL.move hF rfl rfl ?_
  refine TL.on rfl rfl rfl rfl ?_
  refine TL.move hF rfl rfl ?_
  refine TL.on rfl rfl rfl rfl ?_
  refine TL.bin hF rfl rfl rfl rfl ?_
  refine TL.pickT hF rfl rfl rfl rfl ?_
  refine TL.move hF rfl rfl ?_
  refine TL.on rfl rfl rfl rfl ?_
  refine TL.move hF rfl rfl ?_
  refine TL.on rfl rfl rfl rfl ?_
  refine TL.bin hF rfl rfl rfl rfl ?_
  refine TL.pickT hF rfl rfl rfl rfl ?_
  refine TL.move hF rfl rfl ?_
  refine TL.on rfl rfl rfl rfl ?_
  refine TL.move hF rfl rfl ?_
  refine TL.on rfl rfl rfl rfl ?_
  refine TL.bin hF rfl rfl rfl rfl ?_
  refine TL.pickT hF rfl rfl rfl rfl ?_
  refine TL.move hF rfl rfl ?_
  refine TL.on rfl rfl rfl rfl ?_
  refine TL.move hF rfl rfl ?_
  refine TL.on rfl rfl rfl rfl ?_
  refine TL.bin hF rfl rfl rfl rfl ?_
  refine TL.pickT hF rfl rfl rfl rfl ?_
  refine TL.move hF rfl rfl ?_
  refine TL.on rfl rfl rfl rfl ?_
  refine TL.move hF rfl rfl ?_
  refine TL.on rfl rfl rfl rfl ?_
  refine TL.move hF rfl rfl ?_
  refine TL.on rfl rfl rfl rfl ?_
  refine TL.bin hF rfl rfl rfl rfl ?_
  refine TL.pickT hF rfl rfl rfl rfl ?_
  refine TL.move hF rfl rfl ?_
  refine TL.on rfl rfl rfl (by rw [apart_symm ta.up tb.up 0 0]; simp) ?_
  refine TL.move hF rfl rfl ?_
  refine TL.on rfl rfl rfl (by rw [apart_symm ta.up tb.up 0 0]; simp) ?_
  refine TL.bin hF rfl rfl rfl rfl ?_
  refine TL.pickT hF rfl (by rw [apart_symm ta.up tb.up 0 0]; simp) rfl rfl ?_
  refine TL.move hF rfl rfl ?_
  refine TL.on rfl rfl rfl (by have := (apart_le (w := 0) la lb).1; simp; omega) ?_
  refine TL.move hF rfl rfl ?_
  refine TL.on rfl rfl rfl (by have := (apart_le (w := 0) la lb).1; simp; omega) ?_
  refine TL.move hF rfl rfl ?_
  refine TL.on rfl rfl rfl (by have := (apart_le (w := 0) la lb).1; simp; omega) ?_
  refine TL.move hF rfl rfl ?_
  refine TL.on rfl rfl rfl (by have := (apart_le (w := 0) la lb).1; simp; omega) ?_
  refine TL.add hF rfl rfl (by have := (apart_le (w := 0) la lb).1; have := (apart_le (w := 0) lb lc).1; omega) (by have := (apart_le (w := 0) la lb).2; have := (apart_le (w := 0) lb lc).2; omega) rfl ?_
  refine TL.on rfl rfl rfl (by have := (apart_le (w := 0) la lb).1; simp; omega) ?_
  refine TL.bin hF rfl rfl rfl rfl ?_
  refine TL.pickT hF rfl (by have := (apart_le (w := 0) la lb).1; simp; omega) rfl rfl ?_
  refine TL.move hF rfl rfl ?_
  refine TL.on rfl rfl rfl (by have := triangle ta.up tb.up tc.up 0 0 0; simp; omega) ?_
  refine TL.move hF rfl rfl ?_
  refine TL.on rfl rfl rfl (by have := triangle ta.up tb.up tc.up 0 0 0; simp; omega) ?_
  refine TL.bin hF rfl rfl rfl rfl ?_
  refine TL.on rfl rfl rfl (by have := triangle ta.up tb.up tc.up 0 0 0; simp; omega) ?_
  refine TL.move hF rfl rfl ?_
  refine TL.on rfl rfl rfl (by have := triangle ta.up tb.up tc.up 0 0 0; simp; omega) ?_
  refine TL.move hF rfl rfl ?_
  refine TL.on rfl rfl rfl (by have := triangle ta.up tb.up tc.up 0 0 0; simp; omega) ?_
  have hlxl : lx.length ≤ 1608 := by have := congrArg List.length hlx; rw [nds_len] at this; omega
  refine TL.call hF (nodesL_fn (hlxn.up (by simp)) (hlyn.up (by simp)) (by omega)) rfl rfl ?_
  rintro _ _ ⟨rfl, rfl⟩
  refine TL.on rfl rfl rfl (by have := triangle ta.up tb.up tc.up 0 0 0; simp; omega) ?_
  refine TL.eqlB hF rfl rfl rfl ?_
  refine TL.pickT hF rfl (by have := triangle ta.up tb.up tc.up 0 0 0; simp; omega) rfl rfl ?_
  refine TL.move hF rfl rfl ?_
  refine TL.on rfl rfl rfl (by rw [hlx, hly]; simp [apart_zero hbl.symm ta tb 0]) ?_
  refine TL.call hF (traced_law hT) rfl rfl ?_
  rintro _ _ rfl
  refine TL.pickT hF rfl (by rw [hlx, hly]; simp [apart_zero hbl.symm ta tb 0]) rfl rfl ?_
  refine TL.assign hF rfl rfl ?_
  refine TL.nil ?_
  refine TQ.then_n ?_
  refine T.ret ?_
  exact TQ.retsF [4] _ hb rfl rfl rfl (fun _ => rfl)
end Go.Proofs.YtdiacobmhkmljaaDoor
namespace Go.Proofs.YtdiacobmhkmljaaDoor
open Go.Sl Go.ChangeShapes Go.WideShapes Go.ChangeAt Go.RowKit
set_option maxRecDepth 100000 in
theorem traceTriangle_lifted (os : Os) (started : os.Started) (H : Type) (enc : TypeId × Value → H) :
    ReturnsInHanded {} Tryd.checked os 6 .any (fun w args => (Rows.traceTriangleSpec.pre enc Tryd.prog Tryd.f6 [] false w args ∧ laidMetH Tryd.prog laidL w) ∧ sizedMet enc Tryd.prog Tryd.f6 (OpenSpec.ofChange Rows.traceTriangleSpec) false w args)
      (Rows.traceTriangleSpec.post enc Tryd.prog Tryd.f6 false true false false) := by
  refine returnsInHanded_of_change_and (C := Tryd.checked) (X := fun w _ => laidMetH Tryd.prog laidL w) (fun _ _ _ hh h => h.of_heap hh) Tryd.own started (by kernel_rfl) Tryd.func6
    (ChangeSpec.witness_shaped (enc := enc) (C := Tryd.checked) (os := os) (X := fun w _ => laidMetH Tryd.prog laidL w) false (World.doorLaid Tryd.prog 2000 os) #[.slice none 0 0, .slice none 0 0] 8 rfl (World.shaped_of_RefB (by kernel_rfl) (by kernel_rfl)) (by kernel_rfl) (by kernel_rfl) (by kernel_rfl) (door_met os _)) ?_
  intro W base args ds gs before hval0 hW _ hwt hL _
  have hval' : ∀ (j : Nat) t v, Tryd.f6.params[j]? = some t → args[j]? = some v → Value.okWide Tryd.prog W .any base t v := hval0
  have hW' := hW
  obtain ⟨p, q, hA0, hV, rfl, hfz, hnd⟩ := hW
  have hA : DataW.TrodAll enc Tryd.prog W 0 (fun _ => true) true [22, 22] args.toList ds p := hA0
  obtain ⟨v0, v1, d0, d1, p0, p1, rfl, rfl, rfl, h0, h1⟩ := trodAll_two hA
  obtain ⟨_, _, _, rfl⟩ := okWide_slice u22 (hval' 0 22 v0 rfl rfl)
  obtain ⟨_, h0⟩ := h0
  obtain ⟨a0, xs0, c0, e0, hx0, hl0, hb0⟩ := ints_arg h0
  obtain ⟨_, _, _, rfl⟩ := okWide_slice u22 (hval' 1 22 v1 rfl rfl)
  obtain ⟨_, h1⟩ := h1
  obtain ⟨a1, xs1, c1, e1, hx1, hl1, hb1⟩ := ints_arg h1
  rw [e0, e1] at hW' ⊢
  refine (calls_true (TraceTriangle_fn (tabs_of_laid hL) hx0 hl0 hb0 hx1 hl1 hb1)).mono fun e W' ⟨he, hw⟩ => ⟨_, he, ?_⟩
  exact law_post (f := Tryd.f6) Tryd.laidOut rfl 4 rfl u4 hW' rfl (by decide +kernel) hw
theorem traceTriangle_said : Rows.TraceTriangleSaid :=
  OpenClaim.holds_of_wide 6 Tryd.f6 rfl rfl rfl rfl rfl rfl rfl ⟨rfl, rfl, rfl, rfl, rfl⟩ rfl rfl rfl rfl rfl (by kernel_rfl) Tryd.func6 (by kernel_rfl)
    (of_decide_eq_true (by kernel_rfl)) (by unfold Func.isWrapper; first | (rw [if_pos (by decide +kernel)]; kernel_rfl) | (rw [if_neg (by decide +kernel)]; exact ⟨rfl, rfl⟩))
    (fun os started H enc _ => traceTriangle_lifted os started H enc)
theorem traceTriangle_holds : Rows.TraceTriangleCardSaid :=
  Claim7.holds_tied_plain_at .later [] [.funcs, .data] true (true, "9424b675a5bf1259037b7c80c1e1d1308b039b71f1eedf5d2444196735f82e90") false
    traceTriangle_said (fun _ h => by cases h) (by kernel_rfl) (fun _ h => by cases h) traceTriangle_row_tie rfl ⟨rfl, rfl⟩ (by kernel_rfl) rfl
    (fun f fn hf hfn => by
      obtain rfl : f = 6 := Option.some.inj ((show Tryd.prog.funcNamed "deltaworks/deltaworkslaw24.TraceTriangle" = some 6 by kernel_rfl).symm.trans hf) |>.symm
      obtain rfl : fn = Tryd.f6 := (Option.some.inj (Tryd.func6.symm.trans hfn)).symm
      exact ⟨by kernel_rfl, fun j t ht => by
        have ht2 : (#[22, 22] : Array TypeId)[j]? = some t := ht
        have hm : t ∈ ([22, 22] : List TypeId) := by simpa using Array.mem_of_getElem? ht2
        have hall : (([22, 22] : List TypeId).all fun u => !Tryd.prog.wantsStandIn u) = true := by kernel_rfl
        exact (show Tryd.prog.wantsStandIn t = false by simpa using List.all_eq_true.1 hall t hm)⟩)
    (by kernel_rfl)
#print axioms traceTriangle_holds
end Go.Proofs.YtdiacobmhkmljaaDoor
